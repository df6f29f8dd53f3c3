/- A part of what the row of FnExactTakeNote uses. Conditions: as each theorem states. -/
import Derived.Test.YtnhblneeekccoaaZFnExactTakeNoteb
import Derived.Test.YtnhblneeekccoaaProg
import Derived.KernelRfl
namespace Go.Proofs.Ytnhblneeekccoaa.AE
open Go Go.RowKit
set_option linter.unusedVariables false
set_option linter.unusedSimpArgs false
structure D.Note where
 Cell:Int
 Letter:ByteArray
 Tick:Int
 Who:Int
def QdS : AK D.Note:=AK.iso (AK.pair (AK.int .i64) (AK.pair AK.string (AK.pair (AK.int .i64) (AK.int .i64)))) (fun x=>(x.Cell,x.Letter,x.Tick,x.Who))
def Qbh (x:D.Note):Prop:=((Lit.int .i64 x.Cell).wf=true)∧(x.Letter.size≤maxLen)∧((Lit.int .i64 x.Tick).wf=true)∧((Lit.int .i64 x.Who).wf=true)
theorem QeG : Yf Try.prog 24 QdS Qbh:=Qbz (Qas (P:=Try.prog) (t:=24) (fun x:D.Note=>(x.Cell,x.Letter,x.Tick,x.Who)) (fun x=>⟨x.1,x.2.1,x.2.2.1,x.2.2.2⟩) (fun _=>rfl) Try.underlying24 (by kernel_rfl) (Yz Y (by kernel_rfl) (Y9 (k:= .i64) Try.underlying3) (Yz Y (by kernel_rfl) (Qaw Try.underlying9) (Yz Y (by kernel_rfl) (Y9 (k:= .i64) Try.underlying3) (QbD Y (by kernel_rfl) (Y9 (k:= .i64) Try.underlying3)))))) (fun _ h=>h)
theorem st1 : QA Try.prog 1=some false:=by kernel_rfl
theorem ZC : QA Try.prog 3=some false:=by kernel_rfl
theorem sz3 : Try.prog.cellsOf 3=1:=by kernel_rfl
theorem if3 : (Try.prog.info? 3).isSome=true:=by kernel_rfl
theorem sz5 : Try.prog.cellsOf 5=1:=by kernel_rfl
theorem zo5 : Q4 Try.prog 5=some (.int .u8 0):=by kernel_rfl
theorem st9 : QA Try.prog 9=some false:=by kernel_rfl
theorem sz9 : Try.prog.cellsOf 9=1:=by kernel_rfl
theorem if9 : (Try.prog.info? 9).isSome=true:=by kernel_rfl
theorem Qco : QA Try.prog 24=some true:=by kernel_rfl
theorem Qbs : Try.prog.cellsOf 24=4:=by kernel_rfl
theorem Qez : (Try.prog.info? 24).isSome=true:=by kernel_rfl
theorem ZH : QA Try.prog 30=some true:=by kernel_rfl
theorem Qf : Try.prog.cellsOf 30=4:=by kernel_rfl
theorem Q2 : (Try.prog.info? 30).isSome=true:=by kernel_rfl
theorem QE : Q4 Try.prog 30=some (.agg #[.int .i64 0, .string ByteArray.empty, .int .i64 0, .int .i64 0]):=by kernel_rfl
theorem Qc5 : closedV (.agg #[.int .i64 0, .string ByteArray.empty, .int .i64 0, .int .i64 0])=true:=by kernel_rfl
theorem Qd7 (k o:Nat):Qt Try.prog 24 (.pointer (some ⟨k,o,none⟩)) 0=some (.pointer (some ⟨k,o+0,none⟩)):=by simp [Qt,Try.underlying24,if3,sz3]
theorem Qdh (k o:Nat):Qt Try.prog 24 (.pointer (some ⟨k,o,none⟩)) 1=some (.pointer (some ⟨k,o+1,none⟩)):=by simp [Qt,Try.underlying24,if9,sz9]
theorem Qd5 (k o:Nat):Qt Try.prog 24 (.pointer (some ⟨k,o,none⟩)) 2=some (.pointer (some ⟨k,o+2,none⟩)):=by simp [Qt,Try.underlying24,if3,sz3]
theorem Qef (k o:Nat):Qt Try.prog 24 (.pointer (some ⟨k,o,none⟩)) 3=some (.pointer (some ⟨k,o+3,none⟩)):=by simp [Qt,Try.underlying24,if3,sz3]
theorem QW (k o:Nat):Qt Try.prog 30 (.pointer (some ⟨k,o,none⟩)) 0=some (.pointer (some ⟨k,o+0,none⟩)):=by simp [Qt,Try.underlying30,if3,sz3]
theorem Zc (k o:Nat):Qt Try.prog 30 (.pointer (some ⟨k,o,none⟩)) 1=some (.pointer (some ⟨k,o+1,none⟩)):=by simp [Qt,Try.underlying30,if9,sz9]
theorem Zb (k o:Nat):Qt Try.prog 30 (.pointer (some ⟨k,o,none⟩)) 2=some (.pointer (some ⟨k,o+2,none⟩)):=by simp [Qt,Try.underlying30,if3,sz3]
theorem Ze (k o:Nat):Qt Try.prog 30 (.pointer (some ⟨k,o,none⟩)) 3=some (.pointer (some ⟨k,o+3,none⟩)):=by simp [Qt,Try.underlying30,if3,sz3]
theorem follows : Try.prog.follows .mixedOrders=true:=by kernel_rfl
theorem Qcs : Plain Try.prog:=by
 unfold Plain
 kernel_rfl
noncomputable instance : DecidableEq D.Note:=Classical.typeDecidableEq _
def Qa (m:Bool) (x:D.Note):List T:= [.int .i64 x.Cell, .str x.Letter, .int .i64 x.Tick, .int .i64 x.Who]
theorem okeNote : EncOk Qa 4:=⟨fun _ _=>rfl,fun x=>QQ (.int _ _) (QQ (.str _) (QQ (.int _ _) (QQ (.int _ _) (Jj)))),fun m x=>by simp only [Qa,fzL,AE.fz],fun m x=>QQ Y (QQ Y (QQ Y (QQ Y (Jj)))),fun x=>QQ Y (QQ Y (QQ Y (QQ Y (Jj))))⟩
def Qn (x:D.Note):Nat:=ByteArray.size x.Letter
theorem Y4 : Qeq Qa:=fun _ _=>rfl
theorem Qc7 : RK QdS Qa:=QeC (Qb2 Qdj (Qb2 Qes (Qb2 Qdj Qdj))) (fun _=>rfl)
theorem U3 : Try.prog.underlying 3=some (.int .i64):=Try.underlying3
theorem U5 : Try.prog.underlying 5=some (.int .u8):=Try.underlying5
theorem U9 : Try.prog.underlying 9=some .string:=Try.underlying9
theorem U22 : Try.prog.underlying 22=some (.slice 24):=Try.underlying22
theorem QD : Try.prog.underlying 27=some (.slice 30):=Try.underlying27
theorem U67 : Try.prog.underlying 67=some (.slice 5):=Try.underlying67
set_option maxRecDepth 20000
set_option maxHeartbeats 2000000
theorem YZ (n:Nat) (a:D.Note) (left:Int) (h0:0≤left) (h1:left≤(mx:Int)) (hg:Qbh a):Pure (QK Try.prog (n+1)) 7 [(T.agg (Qa false a)),(tI left)] (tI (YC (Qn a) left)):=by
 refine Pure.intro (rs:= [ResultVar.tmp 4]) Try.func7 Y Y Y (E0:= [(0,(T.agg (Qa false a))),(1,(tI left))]) Y ?_
 obtain ⟨hlim,hmx,hmax⟩:=Z3
 obtain ⟨hg0,hg1,hg2,hg3⟩:=hg
 refine sr (kO (B.box (ts:=(Qa false a)) (tv (T.agg (Qa false a)) Y) nofun Y) (fO (OF.assign (VEv.int .i64 0)) (nt (sr (mO (tI left) Y (lf (tS a.Letter) Y Qdh Y Y st9 (lO (B.lenS (tv (tS a.Letter) Y) U9) (fO (B.sub (n:=(left - ((a.Letter.size:Nat):Int))) (tv (tI left) Y) (tv (tN a.Letter.size) Y) (by first | rfl | (rw [ZT (by omega)];omega) | (rw [ZT (by omega)];done))) (aO (tI (left - ((a.Letter.size:Nat):Int))) Y (nt (sq ?_)))))))))))
 refine sr (mO (tI (left - ((a.Letter.size:Nat):Int))) Y (fO (xls (tv (tI (left - ((a.Letter.size:Nat):Int))) Y) (VEv.int .i64 0)) (nt ?_)))
 refine cd ((left - ((a.Letter.size:Nat):Int))<0) Y (fun fhc0=> ?_) fun fhc0=> ?_
 ·refine sr ?_
  refine fO (OF.assign (VEv.int .i64 (-1))) (nt (rt (tr (vi (n':=(-1)) Y ?_))))
  exact Qa2 (by simp only [Qn];omega)
 refine sk (tn (sr (mO (tI (left - ((a.Letter.size:Nat):Int))) Y (aO (tI (left - ((a.Letter.size:Nat):Int))) Y (nt (rt (vi (n':=(left - ((a.Letter.size:Nat):Int))) Y ?_)))))))
 rw [← QcZ (z:=Qn a) (l:=left) (by simp only [Qn];omega)]
 all_goals first | rfl | (simp only [Qn];done) | (simp only [Qn];omega)
theorem J0 (n:Nat) (a:List D.Note) (left:Int) (h0:0≤left) (h1:left≤(mx:Int)) (hg:a.length≤maxLen∧∀x∈a,Qbh x):Pure (QK Try.prog (n+2)) 6 [(rd 4 Qa a),(tI left)] (tI (YC (zL Qn a) left)):=by
 refine Pure.intro (rs:= [ResultVar.tmp 4]) Try.func6 Y Y Y (E0:= [(0,(rd 4 Qa a)),(1,(tI left))]) Y ?_
 obtain ⟨hlim,hmx,hmax⟩:=Z3
 obtain ⟨hg1,hg2⟩:=hg
 refine sr (fO (OF.assign (VEv.int .i64 0)) (nt (sr (mO (tI left) Y (mO (rd 4 Qa a) Y (lO (B.lenR (m:=a.length) (tv (rd 4 Qa a) Y) U22 (List.length_map ..)) (fO (B.sub (n:=(left - ((a.length:Nat):Int))) (tv (tI left) Y) (tv (tN a.length) Y) (by first | exact hg2 _ (List.mem_of_getElem? hx1) | rfl | (rw [ZT (by omega)];omega) | (rw [ZT (by omega)];done))) (aO (tI (left - ((a.length:Nat):Int))) Y (nt (sq (sr ?_)))))))))))
 refine mO (tI (left - ((a.length:Nat):Int))) Y (fO (xls (tv (tI (left - ((a.length:Nat):Int))) Y) (VEv.int .i64 0)) (nt ?_))
 refine cd ((left - ((a.length:Nat):Int))<0) Y (fun fhc0=> ?_) fun fhc0=> ?_
 ·refine sr ?_
  refine fO (OF.assign (VEv.int .i64 (-1))) (nt (rt (tr (vi (n':=(-1)) Y ?_))))
  exact SzI.early fhc0
 refine sk (tn (sq (sr (fO (OF.assign (VEv.int .i64 0)) (nt (VRun.block ?_))))))
 refine VRun.loop (A:=Nat×Int) (fun s_=> [(0,(rd 4 Qa a)),(1,(tI s_.2)),(5,(tN s_.1))]) (fun s_=>JU []) 0 (fun s_=>SzI Qn a left s_.1 s_.2) (fun s_=>a.length - s_.1) ((0,left - (a.length:Int)):Nat×Int) ?_ (Wk.mk (fun k=>k) ?_ ?_ ?_) ?_
 ·exact SzI.start h1 fhc0
 ·exact (b2 (bc ⟨(congrArg (T.int .i64) (show (left - ((a.length:Nat):Int))=(left - (a.length:Int)) from (by first | rfl | omega | (simp;done) | (push_cast;omega)))),rfl⟩ (b2 bn)))
 ·exact bn
 ·exact nd Y
 rintro ⟨i,r⟩ (hI':SzI Qn a left i r)
 show VRun _ _ _ [(0,(rd 4 Qa a)),(1,(tI r)),(5,(tN i))] (JU []) 0 _
 have hI2:=hI'.1
 have hI3:=hI'.2.1
 have hI4:=hI'.2.2.1
 refine sq (sr (mO (tN i) Y (mO (rd 4 Qa a) Y (lO (B.lenR (m:=a.length) (tv (rd 4 Qa a) Y) U22 (List.length_map ..)) (fO (Qai (tv (tN i) Y) (tv (tN a.length) Y)) (nt ?_))))))
 refine cd (i<a.length) Y (fun fhc1=> ?_) fun fhc1=> ?_
 ·refine sk ?_
  refine tn (sq (VRun.block (sr (mO (rd 4 Qa a) Y (mO (tN i) Y ?_)))))
  obtain ⟨x1,hx1⟩:∃x,a[i]? =some x:=⟨_,List.getElem?_eq_getElem (by first | exact hg2 _ (List.mem_of_getElem? hx1) | omega)⟩
  refine fO (OF.indexAddrR (row:=(Qa false x1)) (i:=i) (tv (rd 4 Qa a) Y) (tv (tN i) Y) Y (QL _ hx1) U22 Qbs Qez) (lO (OL.loadRn (us:=(Qa false x1)) (tv (T.rp (Qa false x1)) Y) Qco Qbs (lb Y) Y) (mO (tI r) Y (cO (cS (vc (tv (T.agg (Qa false x1)) Y) (vc (tv (tI r) Y) vn)) (LendL.cons (lg okeNote) (lp Y ln)) (YZ (n+0) x1 r (by first | exact hg2 _ (List.mem_of_getElem? hx1) | assumption | omega) (by first | exact hg2 _ (List.mem_of_getElem? hx1) | assumption | omega) (by first | exact hg2 _ (List.mem_of_getElem? hx1) | assumption | omega)) Y Y) (aO (tI (YC (Qn x1) r)) Y (nt (sr (mO (tI (YC (Qn x1) r)) Y (fO (xls (tv (tI (YC (Qn x1) r)) Y) (VEv.int .i64 0)) (nt ?_)))))))))
  refine cd (YC (Qn x1) r<0) Y (fun fhc2=> ?_) fun fhc2=> ?_
  ·refine sr ?_
   refine fO (OF.assign (VEv.int .i64 (-1))) (nt (rt (vinB.r (tr (tr (vinB.r (tr (vi (n':=(-1)) Y ?_))))))))
   exact hI'.bad hx1 fhc2
  refine sk (vinB.n (tn (VRun.region (mO (tN i) Y (fO (ZV (tv (tN i) Y) (VEv.int .i64 1) (by first | exact hg2 _ (List.mem_of_getElem? hx1) | omega)) (aO (tN (i+1)) Y (VRunO.nil (tn ?_))))))))
  refine ⟨((i+1,YC (Qn x1) r):Nat×Int),?_,?_,Wk.mk (fun k=>k) ?_ ?_ ?_⟩
  ·exact hI'.next hx1 fhc2
  ·first | omega | (simp only [];omega) | (show _<_;omega) | (simp;omega)
  ·exact (b2 (b2 (b2 bn)))
  ·exact bn
  ·exact nd Y
 refine VRun.exit (vthn.e (vthn.e (vinB.e (tn (sr (mO (tI r) Y (aO (tI r) Y (nt (rt (vi (n':=r) Y ?_))))))))))
 exact hI'.done fhc1
theorem ZF (n:Nat) (a:D.Note):Pure (QK Try.prog (n+1)) 10 [(T.agg (Qa false a))] (T.agg (Qa true a)):=by
 refine Pure.intro (rs:= [ResultVar.cell 2 30]) Try.func10 Y Y Y (E0:= [(0,(T.agg (Qa false a)))]) Y ?_
 obtain ⟨hlim,hmx,hmax⟩:=Z3
 refine sr (kO (B.box (ts:=(Qa false a)) (tv (T.agg (Qa false a)) Y) nofun Y) (kO (B.alloc (t:=(T.agg [(tN 0),(tS ByteArray.empty),(tN 0),(tN 0)])) (ts:= [(tN 0),(tS ByteArray.empty),(tN 0),(tN 0)]) QE Qc5 nofun (fun _=> .agg _ _ Y (QbA (RL.cons (.int _ _) (RL.cons (.str _) (RL.cons (.int _ _) (RL.cons (.int _ _) (RL.nil _))))))) Y) (nt (sr (kO (B.alloc (t:=(T.agg [(tN 0),(tS ByteArray.empty),(tN 0),(tN 0)])) (ts:= [(tN 0),(tS ByteArray.empty),(tN 0),(tN 0)]) QE Qc5 nofun (fun _=> .agg _ _ Y (QbA (RL.cons (.int _ _) (RL.cons (.str _) (RL.cons (.int _ _) (RL.cons (.int _ _) (RL.nil _))))))) Y) (nt (sr (lf (tI a.Cell) Y Qd7 Y Y ZC (fO (OF.fieldAddrO (tv (T.op 2 0) Y) QW) (cO (B.storeO (us:= [(tI a.Cell)]) (ws:= [(tI a.Cell),(tS ByteArray.empty),(tN 0),(tN 0)]) (tv (T.op 2 0) Y) (tv (tI a.Cell) Y) nofun Y Y (lb Y) if3 sz3 (bc Y bn) Y) (nt ?_)))))))))))
 refine sr (lf (tS a.Letter) Y Qdh Y Y st9 (fO (OF.fieldAddrO (tv (T.op 2 0) Y) Zc) (cO (B.storeO (us:= [(tS a.Letter)]) (ws:= [(tI a.Cell),(tS a.Letter),(tN 0),(tN 0)]) (tv (T.op 2 1) Y) (tv (tS a.Letter) Y) nofun Y Y (lb Y) if9 sz9 (bc Y bn) Y) (nt (sr (lf (tI a.Tick) Y Qd5 Y Y ZC (fO (OF.fieldAddrO (tv (T.op 2 0) Y) Zb) (cO (B.storeO (us:= [(tI a.Tick)]) (ws:= [(tI a.Cell),(tS a.Letter),(tI a.Tick),(tN 0)]) (tv (T.op 2 2) Y) (tv (tI a.Tick) Y) nofun Y Y (lb Y) if3 sz3 (bc Y bn) Y) (nt (sr (lf (tI a.Who) Y Qef Y Y ZC ?_)))))))))))
 refine fO (OF.fieldAddrO (tv (T.op 2 0) Y) Ze) (cO (B.storeO (us:= [(tI a.Who)]) (ws:= [(tI a.Cell),(tS a.Letter),(tI a.Tick),(tI a.Who)]) (tv (T.op 2 3) Y) (tv (tI a.Who) Y) nofun Y Y (lb Y) if3 sz3 (bc Y bn) Y) (nt (sr (lO (OL.loadOn (us:=(Qa false a)) (tv (T.op 2 0) Y) Y ZH Qf (lb Y) Y) (cO (B.storeW (us:=(Qa false a)) (tv (T.op 1 0) Y) (tv (T.agg (Qa false a)) Y) nofun Y Y Y Q2 Qf (bc Y (bc Y (bc Y (bc Y bn))))) (nt (rt ?_)))))))
 refine vfin.eq (r':=(T.agg (Qa false a))) ?_ (vfin.r (VRes.celln (ws:=(Qa false a)) Y Y ZH Qf (lb Y) Y VRes.nil) (Give.agg (GiveL.cons (Give.int _ _) (GiveL.cons (Give.str _) (GiveL.cons (Give.int _ _) (GiveL.cons (Give.int _ _) GiveL.nil (by decide)) (by decide)) (by decide)) (by decide))))
 first | rfl | (exact Zw (by omega)) | (symm;rw [decide_eq_false_iff_not];omega) | (symm;rw [decide_eq_true_eq];omega) | (simp_all;done)
theorem Zu (n:Nat) (a:List D.Note) (ha:a.length≤mx):Pure (QK Try.prog (n+2)) 9 [(rd 4 Qa a)] (T.sl true 4 (a.map (Qa true))):=by
 refine Pure.intro (rs:= [ResultVar.tmp 2]) Try.func9 Y Y Y (E0:= [(0,(rd 4 Qa a))]) Y ?_
 obtain ⟨hlim,hmx,hmax⟩:=Z3
 refine sr (fO (OF.assign VEv.nils) (nt (sr (mO (rd 4 Qa a) Y (lO (B.lenR (m:=a.length) (tv (rd 4 Qa a) Y) U22 (List.length_map ..)) (kO (B.makeZ (n:=a.length) (m:=((List.replicate a.length (D.Note.mk 0 ByteArray.empty 0 0)).map (Qa true)).length) (rows:=((List.replicate a.length (D.Note.mk 0 ByteArray.empty 0 0)).map (Qa true))) (zr:=(Qa true (D.Note.mk 0 ByteArray.empty 0 0))) (tv (tN a.length) Y) (tv (tN a.length) Y) Y QD QE Qc5 Y (by rw [Qf];decide) (by first | omega | (simp only [List.length_map];omega) | (simp only [List.length_map,List.length_append,List.length_cons,List.length_nil,List.length_replicate,List.length_set,List.length_drop,List.length_take,QT] at *;omega)) (of_decide_eq_true (by kernel_rfl)) (Z0.int (Z0.str (Z0.int (Z0.int Z0.nil)))) Qf (List.map_replicate ..).symm (by rw [List.length_map,List.length_replicate])) (aO (T.os 4 0 0 (((List.replicate a.length (D.Note.mk 0 ByteArray.empty 0 0)).map (Qa true)).length)) Y (nt (sq (sr (fO (OF.assign (VEv.int .i64 0)) ?_)))))))))))
 refine nt (VRun.block ?_)
 have he1:(List.replicate a.length (D.Note.mk 0 ByteArray.empty 0 0))=(a.take 0++List.replicate (a.length - 0) (D.Note.mk 0 ByteArray.empty 0 0)):=by first | rfl | (exact QaD hx1) | (simp;done) | omega
 refine VRun.loop (A:=Nat) (fun s_=> [(0,(rd 4 Qa a)),(2,T.nils),(3,(T.os 4 0 0 (((a.take s_++List.replicate (a.length - s_) (D.Note.mk 0 ByteArray.empty 0 0)).map (Qa true)).length))),(4,(tN s_))]) (fun s_=>JU [(0,(Obj.rows 4 ((a.take s_++List.replicate (a.length - s_) (D.Note.mk 0 ByteArray.empty 0 0)).map (Qa true))))]) 1 (fun s_=>s_≤a.length) (fun s_=>a.length - s_) (0:Nat) ?_ (Wk.mk (fun k=>k) ?_ ?_ ?_) ?_
 ·first | trivial | (simp;done) | omega | (constructor<;>simp)
 ·exact (b2 (b2 (bc ⟨(congrArg (fun l_=>T.os 4 0 0 (List.map (Qa true) l_).length) he1),rfl⟩ (b2 bn))))
 ·exact (bc ⟨(congrArg (fun l_=>some (Obj.rows 4 (List.map (Qa true) l_))) he1),(lb Y),rfl⟩ bn)
 ·exact nd Y
 rintro i (hI':i≤a.length)
 show VRun _ _ _ [(0,(rd 4 Qa a)),(2,T.nils),(3,(T.os 4 0 0 (((a.take i++List.replicate (a.length - i) (D.Note.mk 0 ByteArray.empty 0 0)).map (Qa true)).length))),(4,(tN i))] (JU [(0,(Obj.rows 4 ((a.take i++List.replicate (a.length - i) (D.Note.mk 0 ByteArray.empty 0 0)).map (Qa true))))]) 1 _
 have hfl:=QdJ (w:=(D.Note.mk 0 ByteArray.empty 0 0)) hI'
 refine sq (sr (mO (tN i) Y (mO (rd 4 Qa a) Y (lO (B.lenR (m:=a.length) (tv (rd 4 Qa a) Y) U22 (List.length_map ..)) (fO (Qai (tv (tN i) Y) (tv (tN a.length) Y)) (nt ?_))))))
 refine cd (i<a.length) Y (fun fhc0=> ?_) fun fhc0=> ?_
 ·refine sk ?_
  refine tn (sq (VRun.block (VRun.region (mO (T.os 4 0 0 (((a.take i++List.replicate (a.length - i) (D.Note.mk 0 ByteArray.empty 0 0)).map (Qa true)).length)) Y (mO (tN i) Y (mO (rd 4 Qa a) Y (mO (tN i) Y ?_)))))))
  obtain ⟨x1,hx1⟩:∃x,a[i]? =some x:=⟨_,List.getElem?_eq_getElem (by omega)⟩
  refine fO (OF.indexAddrR (row:=(Qa false x1)) (i:=i) (tv (rd 4 Qa a) Y) (tv (tN i) Y) Y (QL _ hx1) U22 Qbs Qez) (lO (OL.loadRn (us:=(Qa false x1)) (tv (T.rp (Qa false x1)) Y) Qco Qbs (lb Y) Y) (cO (cS (vc (tv (T.agg (Qa false x1)) Y) vn) (LendL.cons (lg okeNote) ln) (ZF (n+0) x1) Y Y) ?_))
  obtain ⟨x2,hx2⟩:∃x,(a.take i++List.replicate (a.length - i) (D.Note.mk 0 ByteArray.empty 0 0))[i]? =some x:=⟨_,List.getElem?_eq_getElem (by first | omega | (simp only [List.length_map];omega) | (simp only [List.length_map,List.length_append,List.length_cons,List.length_nil,List.length_replicate,List.length_set,List.length_drop,List.length_take,QT] at *;omega))⟩
  refine fO (B.indexAddrO (i:=i) (tv (T.os 4 0 0 (((a.take i++List.replicate (a.length - i) (D.Note.mk 0 ByteArray.empty 0 0)).map (Qa true)).length)) Y) (tv (tN i) Y) Y (by first | omega | (simp only [List.length_map];omega) | (simp only [List.length_map,List.length_append,List.length_cons,List.length_nil,List.length_replicate,List.length_set,List.length_drop,List.length_take,QT] at *;omega)) QD Qf Q2) (cO (B.storeP (us:=(Qa true x1)) (rows':=(((a.take i++List.replicate (a.length - i) (D.Note.mk 0 ByteArray.empty 0 0)).set i x1).map (Qa true))) (row:=(Qa true x2)) (tv (T.orp 4 0 i 0) Y) (tv (T.agg (Qa true x1)) Y) nofun Y (QL _ hx2) Y (lb Y) Q2 Qf (bc Y (bc Y (bc Y (bc Y bn)))) (by intro r hr t ht;obtain ⟨x,_,rfl⟩:=List.mem_map.1 hr;rw [Y4] at ht;exact ZA (okeNote.pl _ t ht)) (ZX Y)) (VRunO.nil (vinB.n (tn (VRun.region (mO (tN i) Y (fO (ZV (tv (tN i) Y) (VEv.int .i64 1) (by omega)) (aO (tN (i+1)) Y (VRunO.nil (tn ?_))))))))))
  have he2:((a.take i++List.replicate (a.length - i) (D.Note.mk 0 ByteArray.empty 0 0)).set i x1)=(a.take (i+1)++List.replicate (a.length - (i+1)) (D.Note.mk 0 ByteArray.empty 0 0)):=by first | rfl | (exact QaD hx1) | (simp;done) | omega
  refine ⟨(i+1:Nat),?_,?_,Wk.mk (fun k=>k) ?_ ?_ ?_⟩
  ·first | trivial | omega | (simp;done) | exact ⟨by omega,hI'.2⟩
  ·first | omega | (simp only [];omega) | (show _<_;omega) | (simp;omega)
  ·exact (b2 (b2 (bc ⟨(congrArg (fun n_=>T.os 4 0 0 n_) (show ((a.take i++List.replicate (a.length - i) (D.Note.mk 0 ByteArray.empty 0 0)).map (Qa true)).length=((a.take (i+1)++List.replicate (a.length - (i+1)) (D.Note.mk 0 ByteArray.empty 0 0)).map (Qa true)).length from (by first | rfl | (simp only [List.length_map];omega) | (simp only [List.length_map,List.length_set,List.length_append,List.length_take,List.length_replicate,List.length_cons,List.length_nil];omega)))),rfl⟩ (b2 bn))))
  ·exact (bc ⟨(congrArg (fun l_=>some (Obj.rows 4 (List.map (Qa true) l_))) he2),(lb Y),rfl⟩ bn)
  ·exact nd Y
 refine VRun.exit (vthn.e (vthn.e (vinB.e (tn (sr (mO (T.os 4 0 0 (((a.take i++List.replicate (a.length - i) (D.Note.mk 0 ByteArray.empty 0 0)).map (Qa true)).length)) Y (aO (T.os 4 0 0 (((a.take i++List.replicate (a.length - i) (D.Note.mk 0 ByteArray.empty 0 0)).map (Qa true)).length)) Y (nt (rt ?_)))))))))
 refine vfin.eq (r':=(T.sl true 4 ((a.take i++List.replicate (a.length - i) (D.Note.mk 0 ByteArray.empty 0 0)).map (Qa true)))) ?_ (vfin.r (VRes.tmp (t:=(T.os 4 0 0 (((a.take i++List.replicate (a.length - i) (D.Note.mk 0 ByteArray.empty 0 0)).map (Qa true)).length))) Y VRes.nil) (Give.os Y Y (okeNote.cleanMap _)))
 refine congrArg (fun l_=>T.sl true 4 (List.map (Qa true) l_)) ?_
 exact Qcu fhc0
theorem Qan (n:Nat) (a:D.Note) (b:D.Note):Pure (QK Try.prog (n+1)) 34 [(T.agg (Qa false a)),(T.agg (Qa false b))] (tB (decide (a=b))):=by
 refine Pure.intro (rs:= [ResultVar.tmp 4]) Try.func34 Y Y Y (E0:= [(0,(T.agg (Qa false a))),(1,(T.agg (Qa false b)))]) Y ?_
 obtain ⟨hlim,hmx,hmax⟩:=Z3
 refine sr (kO (B.box (ts:=(Qa false a)) (tv (T.agg (Qa false a)) Y) nofun Y) (kO (B.box (ts:=(Qa false b)) (tv (T.agg (Qa false b)) Y) nofun Y) (fO (OF.assign (VEv.bool false)) (nt (sq (sr (lf (tI a.Cell) Y QW Y Y ZC (lf (tI b.Cell) Y QW Y Y ZC (fO (xne (tv (tI a.Cell) Y) (tv (tI b.Cell) Y)) (nt ?_))))))))))
 refine cn (a.Cell=b.Cell) Y (fun fhc0=> ?_) fun fhc0=> ?_
 ·refine sr ?_
  refine fO (OF.assign (VEv.bool false)) (nt (rt (tr (vb (b':=false) Y ?_))))
  obtain ⟨a0,a1,a2,a3⟩:=a
  obtain ⟨b0,b1,b2,b3⟩:=b
  simp_all
 refine sk (tn (sq (sr (lf (tS a.Letter) Y Zc Y Y st9 (lf (tS b.Letter) Y Zc Y Y st9 (fO (B.sneq (c:=(!(decide (a.Letter=b.Letter)))) (tv (tS a.Letter) Y) (tv (tS b.Letter) Y) Y) (nt ?_)))))))
 refine cn (a.Letter=b.Letter) Y (fun fhc1=> ?_) fun fhc1=> ?_
 ·refine sr ?_
  refine fO (OF.assign (VEv.bool false)) (nt (rt (tr (vb (b':=false) Y ?_))))
  obtain ⟨a0,a1,a2,a3⟩:=a
  obtain ⟨b0,b1,b2,b3⟩:=b
  simp_all
 refine sk (tn (sq (sr (lf (tI a.Tick) Y Zb Y Y ZC (lf (tI b.Tick) Y Zb Y Y ZC (fO (xne (tv (tI a.Tick) Y) (tv (tI b.Tick) Y)) (nt ?_)))))))
 refine cn (a.Tick=b.Tick) Y (fun fhc2=> ?_) fun fhc2=> ?_
 ·refine sr ?_
  refine fO (OF.assign (VEv.bool false)) (nt (rt (tr (vb (b':=false) Y ?_))))
  obtain ⟨a0,a1,a2,a3⟩:=a
  obtain ⟨b0,b1,b2,b3⟩:=b
  simp_all
 refine sk (tn (sq (sr (lf (tI a.Who) Y Ze Y Y ZC (lf (tI b.Who) Y Ze Y Y ZC (fO (xne (tv (tI a.Who) Y) (tv (tI b.Who) Y)) (nt ?_)))))))
 refine cn (a.Who=b.Who) Y (fun fhc3=> ?_) fun fhc3=> ?_
 ·refine sr ?_
  refine fO (OF.assign (VEv.bool false)) (nt (rt (tr (vb (b':=false) Y ?_))))
  obtain ⟨a0,a1,a2,a3⟩:=a
  obtain ⟨b0,b1,b2,b3⟩:=b
  simp_all
 refine sk (tn (sr (fO (OF.assign (VEv.bool true)) (nt (rt (vb (b':=true) Y ?_))))))
 obtain ⟨a0,a1,a2,a3⟩:=a
 obtain ⟨b0,b1,b2,b3⟩:=b
 simp_all
theorem Zs (n:Nat) (a:List D.Note) (b:List D.Note) (hla:a.length≤mx) (hlb:b.length≤mx):Pure (QK Try.prog (n+2)) 12 [(rd 4 Qa a),(rd 4 Qa b)] (tB (decide (a=b))):=by
 refine Pure.intro (rs:= [ResultVar.tmp 4]) Try.func12 Y Y Y (E0:= [(0,(rd 4 Qa a)),(1,(rd 4 Qa b))]) Y ?_
 obtain ⟨hlim,hmx,hmax⟩:=Z3
 refine sr (fO (OF.assign (VEv.bool false)) (nt (sq (sr (mO (rd 4 Qa a) Y (lO (B.lenR (m:=a.length) (tv (rd 4 Qa a) Y) QD (List.length_map ..)) (mO (rd 4 Qa b) Y (lO (B.lenR (m:=b.length) (tv (rd 4 Qa b) Y) QD (List.length_map ..)) (fO (Qd1 (tv (tN a.length) Y) (tv (tN b.length) Y)) (nt ?_))))))))))
 refine cn (a.length=b.length) Y (fun fhc0=> ?_) fun fhc0=> ?_
 ·refine sr ?_
  refine fO (OF.assign (VEv.bool false)) (nt (rt (tr (vb (b':=false) Y ?_))))
  symm;rw [decide_eq_false_iff_not];rintro rfl;exact fhc0 Y
 refine sk (tn (sq (sr (fO (OF.assign (VEv.int .i64 0)) (nt (VRun.block ?_))))))
 refine VRun.loop (A:=Nat) (fun s_=> [(0,(rd 4 Qa a)),(1,(rd 4 Qa b)),(5,(tN s_))]) (fun s_=>JU []) 0 (fun s_=>s_≤a.length∧∀j,j<s_→a[j]? =b[j]?) (fun s_=>a.length - s_) (0:Nat) ?_ (Wk.mk (fun k=>k) ?_ ?_ ?_) ?_
 ·first | trivial | (simp;done) | omega | (constructor<;>simp)
 ·exact (b2 (b2 (b2 bn)))
 ·exact bn
 ·exact nd Y
 rintro i (hI':i≤a.length∧∀j,j<i→a[j]? =b[j]?)
 show VRun _ _ _ [(0,(rd 4 Qa a)),(1,(rd 4 Qa b)),(5,(tN i))] (JU []) 0 _
 refine sq (sr (mO (tN i) Y (mO (rd 4 Qa a) Y (lO (B.lenR (m:=a.length) (tv (rd 4 Qa a) Y) QD (List.length_map ..)) (fO (Qai (tv (tN i) Y) (tv (tN a.length) Y)) (nt ?_))))))
 refine cd (i<a.length) Y (fun fhc1=> ?_) fun fhc1=> ?_
 ·refine sk ?_
  refine tn (sq (VRun.block (sq (VRun.draw (B:= [[],[],[1,0],[0,1,2],[],[],[5,4],[4,5,6],[6,5,4,7,2,1,0,3],[3,0,1,2,7,4,5,6,8]]) (by kernel_rfl) (by kernel_rfl) (mD (rd 4 Qa a) Y Y (mD (tN i) Y Y ?_))))))
  obtain ⟨x1,hx1⟩:∃x,a[i]? =some x:=⟨_,List.getElem?_eq_getElem (by omega)⟩
  refine fD (OF.indexAddrR (row:=(Qa false x1)) (i:=i) (tv (rd 4 Qa a) Y) (tv (tN i) Y) Y (QL _ hx1) QD Qf Q2) Y Y (lD (OL.loadRn (us:=(Qa false x1)) (tv (T.rp (Qa false x1)) Y) ZH Qf (lb Y) Y) Y Y (mD (rd 4 Qa b) Y Y (mD (tN i) Y Y ?_)))
  obtain ⟨x2,hx2⟩:∃x,b[i]? =some x:=⟨_,List.getElem?_eq_getElem (by omega)⟩
  refine fD (OF.indexAddrR (row:=(Qa false x2)) (i:=i) (tv (rd 4 Qa b) Y) (tv (tN i) Y) Y (QL _ hx2) QD Qf Q2) Y Y (lD (OL.loadRn (us:=(Qa false x2)) (tv (T.rp (Qa false x2)) Y) ZH Qf (lb Y) Y) Y Y (VRunD.quiet (bi:= [6,5,4,7,2,1,0,3]) Y VWant.always Y Y Y bn (cS (vc (tv (T.agg (Qa false x1)) Y) (vc (tv (T.agg (Qa false x2)) Y) vn)) (LendL.cons (lg okeNote) (LendL.cons (lg okeNote) ln)) (Qan (n+0) x1 x2) Y Y) (fD (QV (tv (tB (decide (x1=x2))) Y)) Y Y (VRunD.nil (tn ?_)))))
  refine cn (x1=x2) Y (fun fhc2=> ?_) fun fhc2=> ?_
  ·refine sr ?_
   refine fO (OF.assign (VEv.bool false)) (nt (rt (vinB.r (tr (tr (vinB.r (tr (vb (b':=false) Y ?_))))))))
   symm;rw [decide_eq_false_iff_not];exact Qcz hx1 hx2 fhc2
  refine sk (vinB.n (tn (VRun.region (mO (tN i) Y (fO (ZV (tv (tN i) Y) (VEv.int .i64 1) (by omega)) (aO (tN (i+1)) Y (VRunO.nil (tn ?_))))))))
  refine ⟨(i+1:Nat),?_,?_,Wk.mk (fun k=>k) ?_ ?_ ?_⟩
  ·exact QbT hI' hx1 hx2 fhc2
  ·first | omega | (simp only [];omega) | (show _<_;omega) | (simp;omega)
  ·exact (b2 (b2 (b2 bn)))
  ·exact bn
  ·exact nd Y
 refine VRun.exit (vthn.e (vthn.e (vinB.e (tn (sr (fO (OF.assign (VEv.bool true)) (nt (rt (vb (b':=true) Y ?_)))))))))
 symm;rw [decide_eq_true_eq];exact QcF hI' fhc0 fhc1
noncomputable section
theorem Z4 {ok:Nat→Prop} {i n:Nat} (h:i≤n∧∀j,j<i→ok j) (hi:i<n) (hk:ok i):i+1≤n∧∀j,j<i+1→ok j:=by
 refine ⟨hi,fun j hj=> ?_⟩
 rcases Nat.lt_or_ge j i with h1 | h1
 ·exact h.2 j h1
 ·obtain rfl:j=i:=by omega
  exact hk
theorem QS {ok:Nat→Prop} {i n:Nat} (h:i≤n∧∀j,j<i→ok j) (hi:¬i<n):∀j,j<n→ok j:=fun j hj=>h.2 j (by omega)
theorem Qk {α:Type} {l:List α} {i:Nat} {x y:α} (hx:l[i]? =some x) (hy:l[i]? =some y):y=x:=by
 rw [hx] at hy
 exact (Option.some.inj hy).symm
end
theorem Zo (n:Nat) (a:Int) (b:Int) (c:Int):Pure (QK Try.prog (n+1)) 45 [(tI a),(tI b),(tI c)] (tB (decide (b≤a∧a≤c))):=by
 refine Pure.intro (rs:= [ResultVar.tmp 6]) Try.func45 Y Y Y (E0:= [(0,(tI a)),(1,(tI b)),(2,(tI c))]) Y ?_
 obtain ⟨hlim,hmx,hmax⟩:=Z3
 refine sr (fO (OF.assign (VEv.bool false)) (nt (sr (mO (tI a) Y (mO (tI b) Y (fO (xge (tv (tI a) Y) (tv (tI b) Y)) (mO (tB (decide (b≤a))) Y ?_)))))))
 refine gw (b≤a) (fun fhg10_1=> ?_) fun fhg10_1=> ?_
 ·refine gF (dy fhg10_1) Y Y (OF.move (tv (tI a) Y)) ?_
  refine gF (dy fhg10_1) Y Y (OF.move (tv (tI c) Y)) (gF (dy fhg10_1) Y Y (xle (tv (tI a) Y) (tv (tI c) Y)) (fO (OF.pickT (VEv.tmpB Y (dy fhg10_1)) (tv (tB (decide (a≤c))) Y)) (aO (tB (decide (a≤c))) Y (nt (rt (vb (b':=(decide (a≤c))) Y ?_))))))
  exact Zw (by omega)
 refine Jw 3 3 true 10 (dz fhg10_1) Y Y Y (fO (OF.pickF (VEv.tmpB Y (dz fhg10_1)) (VEv.bool false)) (aO (tB false) Y (nt (rt (vb (b':=false) Y ?_)))))
 (symm;rw [decide_eq_false_iff_not];omega)
theorem QZ (n:Nat) (a:Int) (b:Int) (c:Int):Pure (QK Try.prog (n+1)) 47 [(tI a),(tI b),(tI c)] (tB (decide (b≤a∧a≤c))):=by
 refine Pure.intro (rs:= [ResultVar.tmp 6]) Try.func47 Y Y Y (E0:= [(0,(tI a)),(1,(tI b)),(2,(tI c))]) Y ?_
 obtain ⟨hlim,hmx,hmax⟩:=Z3
 refine sr (fO (OF.assign (VEv.bool false)) (nt (sr (mO (tI b) Y (mO (tI a) Y (fO (xle (tv (tI b) Y) (tv (tI a) Y)) (mO (tB (decide (b≤a))) Y ?_)))))))
 refine gw (b≤a) (fun fhg10_1=> ?_) fun fhg10_1=> ?_
 ·refine gF (dy fhg10_1) Y Y (OF.move (tv (tI a) Y)) ?_
  refine gF (dy fhg10_1) Y Y (OF.move (tv (tI c) Y)) (gF (dy fhg10_1) Y Y (xle (tv (tI a) Y) (tv (tI c) Y)) (fO (OF.pickT (VEv.tmpB Y (dy fhg10_1)) (tv (tB (decide (a≤c))) Y)) (aO (tB (decide (a≤c))) Y (nt (rt (vb (b':=(decide (a≤c))) Y ?_))))))
  exact Zw (by omega)
 refine Jw 3 3 true 10 (dz fhg10_1) Y Y Y (fO (OF.pickF (VEv.tmpB Y (dz fhg10_1)) (VEv.bool false)) (aO (tB false) Y (nt (rt (vb (b':=false) Y ?_)))))
 (symm;rw [decide_eq_false_iff_not];omega)
theorem JK (n:Nat) (a:Int):Pure (QK Try.prog (n+1)) 57 [(T.int .u8 a)] (tB (decide (97≤a∧a≤122))):=by
 refine Pure.intro (rs:= [ResultVar.tmp 2]) Try.func57 Y Y Y (E0:= [(0,(T.int .u8 a))]) Y ?_
 obtain ⟨hlim,hmx,hmax⟩:=Z3
 refine sr (fO (OF.assign (VEv.bool false)) (nt (sr (mO (T.int .u8 a) Y (fO (xge (tv (T.int .u8 a) Y) (VEv.int .u8 97)) (mO (tB (decide (97≤a))) Y ?_))))))
 refine gw (97≤a) (fun fhg5_1=> ?_) fun fhg5_1=> ?_
 ·refine gF (dy fhg5_1) Y Y (OF.move (tv (T.int .u8 a) Y)) ?_
  refine gF (dy fhg5_1) Y Y (xle (tv (T.int .u8 a) Y) (VEv.int .u8 122)) (fO (OF.pickT (VEv.tmpB Y (dy fhg5_1)) (tv (tB (decide (a≤122))) Y)) (aO (tB (decide (a≤122))) Y (nt (rt (vb (b':=(decide (a≤122))) Y ?_)))))
  exact Zw (by omega)
 refine Jw 2 2 true 5 (dz fhg5_1) Y Y Y (fO (OF.pickF (VEv.tmpB Y (dz fhg5_1)) (VEv.bool false)) (aO (tB false) Y (nt (rt (vb (b':=false) Y ?_)))))
 (symm;rw [decide_eq_false_iff_not];omega)
noncomputable section
def Zm (s:ByteArray):Prop:=(1≤s.size∧s.size≤8)∧∀i,i<s.size→ZI s i=63∨(97≤ZI s i∧ZI s i≤122)
instance (s:ByteArray):Decidable (Zm s):=Classical.propDecidable _
end
theorem Yj (n:Nat) (a:ByteArray) (ha:a.size≤maxLen):Pure (QK Try.prog (n+2)) 46 [(tS a)] (tB (decide (Zm a))):=by
 refine Pure.intro (rs:= [ResultVar.tmp 2]) Try.func46 Y Y Y (E0:= [(0,(tS a))]) Y ?_
 obtain ⟨hlim,hmx,hmax⟩:=Z3
 refine sr (fO (OF.assign (VEv.bool false)) (nt (sq (sr (mO (tS a) Y (lO (B.lenS (tv (tS a) Y) U9) (cO (cS (vc (tv (tN a.size) Y) (vc (VEv.int .i64 1) (vc (VEv.int .i64 8) vn))) (Yd Y) (Zo (n+0) ((a.size:Nat):Int) 1 8) Y Y) (fO (QV (tv (tB (decide (1≤((a.size:Nat):Int)∧((a.size:Nat):Int)≤8))) Y)) (nt ?_)))))))))
 refine cn (1≤((a.size:Nat):Int)∧((a.size:Nat):Int)≤8) Y (fun fhc0=> ?_) fun fhc0=> ?_
 ·refine sr ?_
  refine fO (OF.assign (VEv.bool false)) (nt (rt (tr (vb (b':=false) Y ?_))))
  (symm;rw [decide_eq_false_iff_not];rintro ⟨h1,h2⟩;omega)
 refine sk (tn (sq (sr (fO (OF.assign (VEv.int .i64 0)) (nt (VRun.block ?_))))))
 refine VRun.loop (A:=Nat) (fun s_=> [(0,(tS a)),(3,(tN s_))]) (fun s_=>JU []) 0 (fun s_=>s_≤a.size∧∀j,j<s_→ZI a j=63∨(97≤ZI a j∧ZI a j≤122)) (fun s_=>a.size - s_) (0:Nat) ?_ (Wk.mk (fun k=>k) ?_ ?_ ?_) ?_
 ·exact ⟨Nat.zero_le _,fun j hj=>by omega⟩
 ·exact (b2 (b2 bn))
 ·exact bn
 ·exact nd Y
 rintro i (hI':i≤a.size∧∀j,j<i→ZI a j=63∨(97≤ZI a j∧ZI a j≤122))
 show VRun _ _ _ [(0,(tS a)),(3,(tN i))] (JU []) 0 _
 refine sq (sr (mO (tN i) Y (mO (tS a) Y (lO (B.lenS (tv (tS a) Y) U9) (fO (Qai (tv (tN i) Y) (tv (tN a.size) Y)) (nt ?_))))))
 refine cd (i<a.size) Y (fun fhc1=> ?_) fun fhc1=> ?_
 ·refine sk ?_
  refine tn (sq (VRun.block (sr (mO (tS a) Y (mO (tN i) Y ?_)))))
  have hb1:i<a.size:=(by omega)
  refine fO (xix (tv (tS a) Y) (tv (tN i) Y) hb1 U9) (fO (xne (tv (T.int .u8 (ZI a i)) Y) (VEv.int .u8 63)) (mO (tB (!(decide (ZI a i=63)))) Y ?_))
  refine gn (ZI a i=63) (fun fhg18_2=> ?_) fun fhg18_2=> ?_
  ·refine gF (ny fhg18_2) Y Y (OF.move (tv (tS a) Y)) ?_
   refine gF (ny fhg18_2) Y Y (OF.move (tv (tN i) Y)) ?_
   have hb3:i<a.size:=(by omega)
   refine gF (ny fhg18_2) Y Y (xix (tv (tS a) Y) (tv (tN i) Y) hb3 U9) (gF (ny fhg18_2) Y Y (xls (tv (T.int .u8 (ZI a i)) Y) (VEv.int .u8 97)) (gF (ny fhg18_2) Y Y (OF.move (tv (tB (decide (ZI a i<97))) Y)) ?_))
   refine gw (ZI a i<97) (fun fhg23_4=> ?_) fun fhg23_4=> ?_
   ·refine Jw 4 9 false 23 (dy fhg23_4) Y Y Y ?_
    refine gF (ny fhg18_2) Y Y (OF.pickT (VEv.tmpB Y (dy fhg23_4)) (VEv.bool true)) (fO (OF.pickT (VEv.tmpB Y (ny fhg18_2)) (tv (tB true) Y)) (nt (ct Y (sr (fO (OF.assign (VEv.bool false)) (nt (rt (vinB.r (tr (tr (vinB.r ?_)))))))))))
    refine tr (vb (b':=false) Y ?_)
    (symm;rw [decide_eq_false_iff_not];rintro ⟨h1,h2⟩;(have:=h2 i fhc1;omega))
   refine gF (dz fhg23_4) Y Y (OF.move (tv (tS a) Y)) (gF (dz fhg23_4) Y Y (OF.move (tv (tN i) Y)) ?_)
   have hb5:i<a.size:=(by omega)
   refine gF (dz fhg23_4) Y Y (xix (tv (tS a) Y) (tv (tN i) Y) hb5 U9) (gF (dz fhg23_4) Y Y (xgt (tv (T.int .u8 (ZI a i)) Y) (VEv.int .u8 122)) (gF (ny fhg18_2) Y Y (OF.pickF (VEv.tmpB Y (dz fhg23_4)) (tv (tB (decide (122<ZI a i))) Y)) (fO (OF.pickT (VEv.tmpB Y (ny fhg18_2)) (tv (tB (decide (122<ZI a i))) Y)) (nt ?_))))
   refine cd (122<ZI a i) Y (fun fhc2=> ?_) fun fhc2=> ?_
   ·refine sr ?_
    refine fO (OF.assign (VEv.bool false)) (nt (rt (vinB.r (tr (tr (vinB.r (tr (vb (b':=false) Y ?_))))))))
    (symm;rw [decide_eq_false_iff_not];rintro ⟨h1,h2⟩;(have:=h2 i fhc1;omega))
   refine sk (vinB.n (tn (VRun.region (mO (tN i) Y (fO (ZV (tv (tN i) Y) (VEv.int .i64 1) (by omega)) (aO (tN (i+1)) Y (VRunO.nil (tn ?_))))))))
   refine ⟨(i+1:Nat),?_,?_,Wk.mk (fun k=>k) ?_ ?_ ?_⟩
   ·exact Z4 (ok:=fun j=>ZI a j=63∨(97≤ZI a j∧ZI a j≤122)) hI' fhc1 (by omega)
   ·omega
   ·exact (b2 (b2 bn))
   ·exact bn
   ·exact nd Y
  refine Jw 5 4 true 18 (nz fhg18_2) Y Y Y (QeV 4 9 false 23 Y Y Y (oO Y Y (nz fhg18_2) (fO (OF.pickF (VEv.tmpB Y (nz fhg18_2)) (VEv.bool false)) (nt (cf Y (sk (vinB.n (tn (VRun.region (mO (tN i) Y (fO (ZV (tv (tN i) Y) (VEv.int .i64 1) (by omega)) ?_)))))))))))
  refine aO (tN (i+1)) Y (VRunO.nil (tn ?_))
  refine ⟨(i+1:Nat),?_,?_,Wk.mk (fun k=>k) ?_ ?_ ?_⟩
  ·exact Z4 (ok:=fun j=>ZI a j=63∨(97≤ZI a j∧ZI a j≤122)) hI' fhc1 (by omega)
  ·omega
  ·exact (b2 (b2 bn))
  ·exact bn
  ·exact nd Y
 refine VRun.exit (vthn.e (vthn.e (vinB.e (tn (sr (fO (OF.assign (VEv.bool true)) (nt (rt (vb (b':=true) Y ?_)))))))))
 (symm;rw [decide_eq_true_eq];exact ⟨by omega,QS hI' fhc1⟩)
theorem Yl (n:Nat) (a:ByteArray) (ha:a.size≤maxLen):Pure (QK Try.prog (n+2)) 48 [(tS a)] (tB (decide (Zm a))):=by
 refine Pure.intro (rs:= [ResultVar.tmp 2]) Try.func48 Y Y Y (E0:= [(0,(tS a))]) Y ?_
 obtain ⟨hlim,hmx,hmax⟩:=Z3
 refine sr (fO (OF.assign (VEv.bool false)) (nt (sq (sr (mO (tS a) Y (lO (B.lenS (tv (tS a) Y) U9) (cO (cS (vc (tv (tN a.size) Y) (vc (VEv.int .i64 1) (vc (VEv.int .i64 8) vn))) (Yd Y) (QZ (n+0) ((a.size:Nat):Int) 1 8) Y Y) (fO (QV (tv (tB (decide (1≤((a.size:Nat):Int)∧((a.size:Nat):Int)≤8))) Y)) (nt ?_)))))))))
 refine cn (1≤((a.size:Nat):Int)∧((a.size:Nat):Int)≤8) Y (fun fhc0=> ?_) fun fhc0=> ?_
 ·refine sr ?_
  refine fO (OF.assign (VEv.bool false)) (nt (rt (tr (vb (b':=false) Y ?_))))
  (symm;rw [decide_eq_false_iff_not];rintro ⟨h1,h2⟩;omega)
 refine sk (tn (sq (sr (mO (tS a) Y (lO (B.lenS (tv (tS a) Y) U9) (fO (OF.move (VEv.int .i64 0)) (nt (VRun.block ?_))))))))
 refine VRun.loop (A:=Nat) (fun s_=> [(0,(tS a)),(9,(tN a.size)),(10,(tN s_))]) (fun s_=>JU []) 0 (fun s_=>s_≤a.size∧∀j,j<s_→ZI a j=63∨(97≤ZI a j∧ZI a j≤122)) (fun s_=>a.size - s_) (0:Nat) ?_ (Wk.mk (fun k=>k) ?_ ?_ ?_) ?_
 ·exact ⟨Nat.zero_le _,fun j hj=>by omega⟩
 ·exact (b2 (b2 (b2 bn)))
 ·exact bn
 ·exact nd Y
 rintro i (hI':i≤a.size∧∀j,j<i→ZI a j=63∨(97≤ZI a j∧ZI a j≤122))
 show VRun _ _ _ [(0,(tS a)),(9,(tN a.size)),(10,(tN i))] (JU []) 0 _
 refine sr (fO (Qai (tv (tN i) Y) (tv (tN a.size) Y)) (nt (sq ?_)))
 refine cd (i<a.size) Y (fun fhc1=> ?_) fun fhc1=> ?_
 ·refine sk ?_
  refine tn (sq (VRun.block (sr (mO (tN i) Y (aO (tN i) Y (nt (sr (mO (tS a) Y (mO (tN i) Y ?_)))))))))
  have hb1:i<a.size:=(by omega)
  refine fO (xix (tv (tS a) Y) (tv (tN i) Y) hb1 U9) (fO (xne (tv (T.int .u8 (ZI a i)) Y) (VEv.int .u8 63)) (mO (tB (!(decide (ZI a i=63)))) Y ?_))
  refine gn (ZI a i=63) (fun fhg17_2=> ?_) fun fhg17_2=> ?_
  ·refine gF (ny fhg17_2) Y Y (OF.move (tv (tS a) Y)) ?_
   refine gF (ny fhg17_2) Y Y (OF.move (tv (tN i) Y)) ?_
   have hb3:i<a.size:=(by omega)
   refine gF (ny fhg17_2) Y Y (xix (tv (tS a) Y) (tv (tN i) Y) hb3 U9) (VRunO.chain (VWant.on Y Y (ny fhg17_2)) (cS (vc (tv (T.int .u8 (ZI a i)) Y) vn) (Yd Y) (JK (n+0) (ZI a i)) Y Y) (gF (ny fhg17_2) Y Y (QV (tv (tB (decide (97≤(ZI a i)∧(ZI a i)≤122))) Y)) (fO (OF.pickT (VEv.tmpB Y (ny fhg17_2)) (tv (tB (!(decide (97≤(ZI a i)∧(ZI a i)≤122)))) Y)) (nt ?_))))
   refine cn (97≤(ZI a i)∧(ZI a i)≤122) Y (fun fhc2=> ?_) fun fhc2=> ?_
   ·refine sr ?_
    refine fO (OF.assign (VEv.bool false)) (nt (rt (vinB.r (tr (tr (vinB.r (tr (vb (b':=false) Y ?_))))))))
    (symm;rw [decide_eq_false_iff_not];rintro ⟨h1,h2⟩;(have:=h2 i fhc1;omega))
   refine sk (vinB.n (tn (VRun.region (fO (ZV (tv (tN i) Y) (VEv.int .i64 1) (by omega)) (mO (tN (i+1)) Y (VRunO.nil (tn ?_)))))))
   refine ⟨(i+1:Nat),?_,?_,Wk.mk (fun k=>k) ?_ ?_ ?_⟩
   ·exact Z4 (ok:=fun j=>ZI a j=63∨(97≤ZI a j∧ZI a j≤122)) hI' fhc1 (by omega)
   ·omega
   ·exact (b2 (b2 (b2 bn)))
   ·exact bn
   ·exact nd Y
  refine Jw 5 4 true 17 (nz fhg17_2) Y Y Y (fO (OF.pickF (VEv.tmpB Y (nz fhg17_2)) (VEv.bool false)) (nt (cf Y (sk (vinB.n (tn (VRun.region (fO (ZV (tv (tN i) Y) (VEv.int .i64 1) (by omega)) (mO (tN (i+1)) Y (VRunO.nil (tn ?_)))))))))))
  refine ⟨(i+1:Nat),?_,?_,Wk.mk (fun k=>k) ?_ ?_ ?_⟩
  ·exact Z4 (ok:=fun j=>ZI a j=63∨(97≤ZI a j∧ZI a j≤122)) hI' fhc1 (by omega)
  ·omega
  ·exact (b2 (b2 (b2 bn)))
  ·exact bn
  ·exact nd Y
 refine VRun.exit (vthn.e (vthn.e (vinB.e (tn (sr (fO (OF.assign (VEv.bool true)) (nt (rt (vb (b':=true) Y ?_)))))))))
 (symm;rw [decide_eq_true_eq];exact ⟨by omega,QS hI' fhc1⟩)
noncomputable section
def QP (a b:D.Note):Bool:=if a.Tick=b.Tick then (if a.Who=b.Who then !(Op.bytesLess a.Letter.toList b.Letter.toList || decide (a.Letter=b.Letter)) else decide (b.Who<a.Who)) else decide (b.Tick<a.Tick)
def Qab (l:List D.Note) (j:Nat):Prop:=∃x,l[j]? =some x∧(0≤x.Cell∧x.Cell≤35)∧x.Letter.size=1∧Zm x.Letter∧(0≤x.Tick∧x.Tick≤1000)∧(1≤x.Who∧x.Who≤9)∧(0<j→∃y,l[j - 1]? =some y∧y.Cell<x.Cell)
def Qb (l:List D.Note):Prop:=l.length≤40∧∀j,j<l.length→Qab l j
instance (l:List D.Note):Decidable (Qb l):=Classical.propDecidable _
end
theorem YP (n:Nat) (a:D.Note) (b:D.Note):Pure (QK Try.prog (n+1)) 28 [(T.agg (Qa false a)),(T.agg (Qa false b))] (tB (QP a b)):=by
 refine Pure.intro (rs:= [ResultVar.tmp 4]) Try.func28 Y Y Y (E0:= [(0,(T.agg (Qa false a))),(1,(T.agg (Qa false b)))]) Y ?_
 obtain ⟨hlim,hmx,hmax⟩:=Z3
 refine sr (kO (B.box (ts:=(Qa false a)) (tv (T.agg (Qa false a)) Y) nofun Y) (kO (B.box (ts:=(Qa false b)) (tv (T.agg (Qa false b)) Y) nofun Y) (fO (OF.assign (VEv.bool false)) (nt (sq (VRun.block (sr (lf (tI a.Tick) Y Zb Y Y ZC (lf (tI b.Tick) Y Zb Y Y ZC (fO (xne (tv (tI a.Tick) Y) (tv (tI b.Tick) Y)) (aO (tB (!(decide (a.Tick=b.Tick)))) Y ?_)))))))))))
 refine nt ?_
 refine cn (a.Tick=b.Tick) Y (fun fhc0=> ?_) fun fhc0=> ?_
 ·refine sr ?_
  refine lf (tI a.Tick) Y Zb Y Y ZC (lf (tI b.Tick) Y Zb Y Y ZC (fO (xgt (tv (tI a.Tick) Y) (tv (tI b.Tick) Y)) (aO (tB (decide (b.Tick<a.Tick))) Y (nt (rt (vinB.r (tr (vb (b':=(decide (b.Tick<a.Tick))) Y ?_))))))))
  simp only [QP];simp_all
 refine sr (lf (tI a.Who) Y Ze Y Y ZC (lf (tI b.Who) Y Ze Y Y ZC (fO (xne (tv (tI a.Who) Y) (tv (tI b.Who) Y)) (aO (tB (!(decide (a.Who=b.Who)))) Y (nt ?_)))))
 refine cn (a.Who=b.Who) Y (fun fhc1=> ?_) fun fhc1=> ?_
 ·refine sr ?_
  refine lf (tI a.Who) Y Ze Y Y ZC (lf (tI b.Who) Y Ze Y Y ZC (fO (xgt (tv (tI a.Who) Y) (tv (tI b.Who) Y)) (aO (tB (decide (b.Who<a.Who))) Y (nt (rt (vinB.r (tr (vb (b':=(decide (b.Who<a.Who))) Y ?_))))))))
  simp only [QP];simp_all
 refine sk (vinB.n (tn (sr (lf (tS a.Letter) Y Zc Y Y st9 (lf (tS b.Letter) Y Zc Y Y st9 (fO (B.sgtr (c:=(!(Op.bytesLess a.Letter.toList b.Letter.toList || decide (a.Letter=b.Letter)))) (tv (tS a.Letter) Y) (tv (tS b.Letter) Y) Y) (aO (tB (!(Op.bytesLess a.Letter.toList b.Letter.toList || decide (a.Letter=b.Letter)))) Y (nt (rt (vb (b':=(!(Op.bytesLess a.Letter.toList b.Letter.toList || decide (a.Letter=b.Letter)))) Y ?_))))))))))
 simp only [QP];simp_all
theorem YS (n:Nat) (a:D.Note) (b:D.Note):Pure (QK Try.prog (n+1)) 33 [(T.agg (Qa false a)),(T.agg (Qa false b))] (tB (QP a b)):=by
 refine Pure.intro (rs:= [ResultVar.tmp 4]) Try.func33 Y Y Y (E0:= [(0,(T.agg (Qa false a))),(1,(T.agg (Qa false b)))]) Y ?_
 obtain ⟨hlim,hmx,hmax⟩:=Z3
 refine sr (kO (B.box (ts:=(Qa false a)) (tv (T.agg (Qa false a)) Y) nofun Y) (kO (B.box (ts:=(Qa false b)) (tv (T.agg (Qa false b)) Y) nofun Y) (fO (OF.assign (VEv.bool false)) (nt (sq (VRun.block (sr (lf (tI a.Tick) Y Zb Y Y ZC (lf (tI b.Tick) Y Zb Y Y ZC (fO (xne (tv (tI a.Tick) Y) (tv (tI b.Tick) Y)) (aO (tB (!(decide (a.Tick=b.Tick)))) Y ?_)))))))))))
 refine nt ?_
 refine cn (a.Tick=b.Tick) Y (fun fhc0=> ?_) fun fhc0=> ?_
 ·refine sr ?_
  refine lf (tI a.Tick) Y Zb Y Y ZC (lf (tI b.Tick) Y Zb Y Y ZC (fO (xgt (tv (tI a.Tick) Y) (tv (tI b.Tick) Y)) (aO (tB (decide (b.Tick<a.Tick))) Y (nt (rt (vinB.r (tr (vb (b':=(decide (b.Tick<a.Tick))) Y ?_))))))))
  simp only [QP];simp_all
 refine sr (lf (tI a.Who) Y Ze Y Y ZC (lf (tI b.Who) Y Ze Y Y ZC (fO (xne (tv (tI a.Who) Y) (tv (tI b.Who) Y)) (aO (tB (!(decide (a.Who=b.Who)))) Y (nt ?_)))))
 refine cn (a.Who=b.Who) Y (fun fhc1=> ?_) fun fhc1=> ?_
 ·refine sr ?_
  refine lf (tI a.Who) Y Ze Y Y ZC (lf (tI b.Who) Y Ze Y Y ZC (fO (xgt (tv (tI a.Who) Y) (tv (tI b.Who) Y)) (aO (tB (decide (b.Who<a.Who))) Y (nt (rt (vinB.r (tr (vb (b':=(decide (b.Who<a.Who))) Y ?_))))))))
  simp only [QP];simp_all
 refine sk (vinB.n (tn (sr (lf (tS a.Letter) Y Zc Y Y st9 (lf (tS b.Letter) Y Zc Y Y st9 (fO (B.sgtr (c:=(!(Op.bytesLess a.Letter.toList b.Letter.toList || decide (a.Letter=b.Letter)))) (tv (tS a.Letter) Y) (tv (tS b.Letter) Y) Y) (aO (tB (!(Op.bytesLess a.Letter.toList b.Letter.toList || decide (a.Letter=b.Letter)))) Y (nt (rt (vb (b':=(!(Op.bytesLess a.Letter.toList b.Letter.toList || decide (a.Letter=b.Letter)))) Y ?_))))))))))
 simp only [QP];simp_all
theorem Qy (n:Nat) (a:List D.Note) (hz:zL Qn a≤2*mx):Pure (QK Try.prog (n+3)) 29 [(rd 4 Qa a)] (tB (decide (Qb a))):=by
 refine Pure.intro (rs:= [ResultVar.tmp 2]) Try.func29 Y Y Y (E0:= [(0,(rd 4 Qa a))]) Y ?_
 obtain ⟨hlim,hmx,hmax⟩:=Z3
 have ha:=Qac (z:=Qn) a
 have hw:∀x∈a,x.Letter.size≤maxLen:=fun x hx=>by have h1:=Qde (z:=Qn) hx;simp only [Qn] at h1;omega
 refine sr (fO (OF.assign (VEv.bool false)) (nt (sq (sr (fO (OF.assign (VEv.int .i64 0)) (nt (VRun.block ?_)))))))
 refine VRun.loop (A:=Nat) (fun s_=> [(0,(rd 4 Qa a)),(3,(tN s_))]) (fun s_=>JU []) 0 (fun s_=>s_≤a.length∧∀j,j<s_→Qab a j) (fun s_=>a.length - s_) (0:Nat) ?_ (Wk.mk (fun k=>k) ?_ ?_ ?_) ?_
 ·exact ⟨Nat.zero_le _,fun j hj=>by omega⟩
 ·exact (b2 (b2 bn))
 ·exact bn
 ·exact nd Y
 rintro i (hI':i≤a.length∧∀j,j<i→Qab a j)
 show VRun _ _ _ [(0,(rd 4 Qa a)),(3,(tN i))] (JU []) 0 _
 have hI0:=hI'
 refine sq (sr (mO (tN i) Y (mO (rd 4 Qa a) Y (lO (B.lenR (m:=a.length) (tv (rd 4 Qa a) Y) QD (List.length_map ..)) (fO (Qai (tv (tN i) Y) (tv (tN a.length) Y)) (nt ?_))))))
 refine cd (i<a.length) Y (fun fhc0=> ?_) fun fhc0=> ?_
 ·refine sk ?_
  refine tn (sq (VRun.block (sr (mO (rd 4 Qa a) Y (mO (tN i) Y ?_)))))
  obtain ⟨x1,hx1⟩:∃x,a[i]? =some x:=⟨_,List.getElem?_eq_getElem (by first | exact hw _ (List.mem_of_getElem? hx1) | omega)⟩
  refine fO (OF.indexAddrR (row:=(Qa false x1)) (i:=i) (tv (rd 4 Qa a) Y) (tv (tN i) Y) Y (QL _ hx1) QD Qf Q2) (lO (OL.loadRn (us:=(Qa false x1)) (tv (T.rp (Qa false x1)) Y) ZH Qf (lb Y) Y) (kO (B.alloc (t:=(T.agg [(tN 0),(tS ByteArray.empty),(tN 0),(tN 0)])) (ts:= [(tN 0),(tS ByteArray.empty),(tN 0),(tN 0)]) QE Qc5 nofun (fun _=> .agg _ _ Y (QbA (RL.cons (.int _ _) (RL.cons (.str _) (RL.cons (.int _ _) (RL.cons (.int _ _) (RL.nil _))))))) Y) (cO (B.storeW (us:=(Qa false x1)) (tv (T.op 0 0) Y) (tv (T.agg (Qa false x1)) Y) nofun Y Y Y Q2 Qf (bc Y (bc Y (bc Y (bc Y bn))))) (nt (sq (VRun.draw (B:= [[],[0],[0,1],[1,0,2],[2,0,1,3],[3,1,0,2,4],[4,2,0,1,3,5],[5,3,1,0,2,4,6],[6,4,2,0,1,3,5,7],[6,4,2,0,1,3,5,7],[7,5,3,1,0,2,4,6,9],[9,10,7,5,3,1,0,2,4,6,8],[8,6,4,2,0,1,3,5,7,10,9,11],[11,9,10,7,5,3,1,0,2,4,6,8,12],[6,4,2,0,1,3,5,7],[7,5,3,1,0,2,4,6,14],[14,15,12,8,6,4,2,0,1,3,5,7,10,9,11,13],[13,11,9,10,8,12,15,14,16,6,4,2,0,1,3,5,7],[7,5,6,16,14,15,12,8,10,9,11,13,17,3,1,0,2,4],[4,2,0,1,3,17,13,11,9,10,8,12,15,14,16,6,5,7,18],[18,7,5,6,16,14,15,12,8,10,9,11,13,17,3,1,0,2,4,19],[19,4,2,0,1,3,17,13,11,9,10,8,12,15,14,16,6,5,7,18,20],[20,18,7,5,6,16,14,15,12,8,10,9,11,13,17,3,1,0,2,4,19,21],[21,19,4,2,0,1,3,17,13,11,9,10,8,12,15,14,16,6,5,7,18,20,22],[22,20,21,23,18,7,5,6,16,14,15,12,8,10,9,11,13,17,3,1,0,2,4,19],[19,4,2,0,1,3,17,13,11,9,10,8,12,15,14,16,6,5,7,18,23,21,20,22,24],[24,22,20,21,23,18,7,5,6,16,14,15,12,8,10,9,11,13,17,3,1,0,2,4,19,25],[25,19,4,2,0,1,3,17,13,11,9,10,8,12,15,14,16,6,5,7,18,23,21,20,22,24,26],[26,24,22,20,21,23,18,7,5,6,16,14,15,12,8,10,9,11,13,17,3,1,0,2,4,19,25,27],[27,25,19,4,2,0,1,3,17,13,11,9,10,8,12,15,14,16,6,5,7,18,23,21,20,22,24,26,28],[28,26,27,29,24,22,20,21,23,18,7,5,6,16,14,15,12,8,10,9,11,13,17,3,1,0,2,4,19,25],[25,19,4,2,0,1,3,17,13,11,9,10,8,12,15,14,16,6,5,7,18,23,21,20,22,24,29,27,26,28,30],[30,28,26,27,29,24,22,20,21,23,18,7,5,6,16,14,15,12,8,10,9,11,13,17,3,1,0,2,4,19,25,31],[31,25,19,4,2,0,1,3,17,13,11,9,10,8,12,15,14,16,6,5,7,18,23,21,20,22,24,29,27,26,28,30,32],[32,30,28,26,27,29,24,22,20,21,23,18,7,5,6,16,14,15,12,8,10,9,11,13,17,3,1,0,2,4,19,25,31,33],[33,31,25,19,4,2,0,1,3,17,13,11,9,10,8,12,15,14,16,6,5,7,18,23,21,20,22,24,29,27,26,28,30,32,34],[34,32,33,35,30,28,26,27,29,24,22,20,21,23,18,7,5,6,16,14,15,12,8,10,9,11,13,17,3,1,0,2,4,19,25,31],[31,25,19,4,2,0,1,3,17,13,11,9,10,8,12,15,14,16,6,5,7,18,23,21,20,22,24,29,27,26,28,30,35,33,32,34,36],[36,34,32,33,35,30,28,26,27,29,24,22,20,21,23,18,7,5,6,16,14,15,12,8,10,9,11,13,17,3,1,0,2,4,19,25,31,37],[37,31,25,19,4,2,0,1,3,17,13,11,9,10,8,12,15,14,16,6,5,7,18,23,21,20,22,24,29,27,26,28,30,35,33,32,34,36,38],[38,36,34,32,33,35,30,28,26,27,29,24,22,20,21,23,18,7,5,6,16,14,15,12,8,10,9,11,13,17,3,1,0,2,4,19,25,31,37,39],[39,37,31,25,19,4,2,0,1,3,17,13,11,9,10,8,12,15,14,16,6,5,7,18,23,21,20,22,24,29,27,26,28,30,35,33,32,34,36,38,40],[40,38,39,41,36,34,32,33,35,30,28,26,27,29,24,22,20,21,23,18,7,5,6,16,14,15,12,8,10,9,11,13,17,3,1,0,2,4,19,25,31,37]]) (by kernel_rfl) (by kernel_rfl) ?_))))))
  refine fD (OF.fieldAddrO (tv (T.op 0 0) Y) QW) Y Y (lD (OL.loadO1 (t:=(tI x1.Cell)) (tv (T.op 0 0) Y) Y Y ZC) Y Y (VRunD.quiet (bi:= [0,1]) Y VWant.always Y Y Y bn (cS (vc (tv (tI x1.Cell) Y) (vc (VEv.int .i64 0) (vc (VEv.int .i64 35) vn))) (Yd Y) (Zo (n+1) x1.Cell 0 35) Y Y) (fD (QV (tv (tB (decide (0≤x1.Cell∧x1.Cell≤35))) Y)) Y Y (mD (tB (!(decide (0≤x1.Cell∧x1.Cell≤35)))) Y Y ?_))))
  refine gn (0≤x1.Cell∧x1.Cell≤35) (fun fhg19_1=> ?_) fun fhg19_1=> ?_
  ·refine oD Y Y (ny fhg19_1) Y ?_
   refine oD Y Y (ny fhg19_1) Y (oD Y Y (ny fhg19_1) Y (uD Y Y Y (uD Y Y Y (uD Y Y Y (uD Y Y Y (uD Y Y Y (uD Y Y Y (uD Y Y Y (uD Y Y Y (uD Y Y Y (oD Y Y (ny fhg19_1) Y ?_)))))))))))
   refine fD (OF.pickT (VEv.tmpB Y (ny fhg19_1)) (VEv.bool true)) Y Y (mD (tB true) Y Y (VRunD.off Y (VWant.not (b:=true) Y Y Y) (VRunD.off Y (VWant.not (b:=true) Y Y Y) (VRunD.off Y (VWant.not (b:=true) Y Y Y) (VRunD.off Y (VWant.not (b:=true) Y Y Y) (fD (OF.pickT (tv (tB true) Y) (VEv.bool true)) Y Y (mD (tB true) Y Y (VRunD.off Y (VWant.not (b:=true) Y Y Y) (VRunD.off Y (VWant.not (b:=true) Y Y Y) (VRunD.off Y (VWant.not (b:=true) Y Y Y) (VRunD.off Y (VWant.not (b:=true) Y Y Y) ?_)))))))))))
   refine fD (OF.pickT (tv (tB true) Y) (VEv.bool true)) Y Y (mD (tB true) Y Y (VRunD.off Y (VWant.not (b:=true) Y Y Y) (VRunD.off Y (VWant.not (b:=true) Y Y Y) (VRunD.off Y (VWant.not (b:=true) Y Y Y) (VRunD.off Y (VWant.not (b:=true) Y Y Y) (fD (OF.pickT (tv (tB true) Y) (VEv.bool true)) Y Y (mD (tB true) Y Y (VRunD.off Y (VWant.not (b:=true) Y Y Y) (VRunD.off Y (VWant.not (b:=true) Y Y Y) (VRunD.off Y (VWant.not (b:=true) Y Y Y) (VRunD.off Y (VWant.not (b:=true) Y Y Y) ?_)))))))))))
   refine fD (OF.pickT (tv (tB true) Y) (VEv.bool true)) Y Y (VRunD.nil (tn (ct Y (sr (fO (OF.assign (VEv.bool false)) (nt (rt (vinB.r (tr (tr (vinB.r ?_)))))))))))
   refine tr (vb (b':=false) Y ?_)
   first | (refine Zw ⟨fun h=>⟨by omega,QS hI' fhc0⟩,fun h=>by have:=h.1;omega⟩) | (symm;rw [decide_eq_false_iff_not];rintro ⟨_,h2⟩;obtain ⟨y,hy,h3,h4,h5,h6,h7,h8⟩:=h2 i fhc0;obtain rfl:=Qk hx1 hy;first | omega | contradiction | (obtain ⟨z,hz,h9⟩:=h8 (by omega);obtain rfl:=Qk hx2 hz;omega) | (simp_all;done))
  refine VRunD.free Y (VWant.on Y Y (nz fhg19_1)) Y (OF.move (tv (tN i) Y)) (VRunD.free Y (VWant.on Y Y (nz fhg19_1)) Y (B.gtr (c:=(decide (0<i))) (tv (tN i) Y) (VEv.int .i64 0) (by first | exact hw _ (List.mem_of_getElem? hx1) | (exact Zw (by omega)))) (VRunD.free Y (VWant.on Y Y (nz fhg19_1)) Y (OF.move (tv (tB (decide (0<i))) Y)) ?_))
  refine gw (0<i) (fun fhg22_2=> ?_) fun fhg22_2=> ?_
  ·refine VRunD.free Y (VWant.on Y Y (dy fhg22_2)) Y (OF.move (tv (rd 4 Qa a) Y)) ?_
   refine VRunD.free Y (VWant.on Y Y (dy fhg22_2)) Y (OF.move (tv (tN i) Y)) (VRunD.free Y (VWant.on Y Y (dy fhg22_2)) Y (B.sub (n:=((i - 1:Nat):Int)) (tv (tN i) Y) (VEv.int .i64 1) (by first | exact hw _ (List.mem_of_getElem? hx1) | rfl | (rw [ZT (by omega)];omega) | (rw [ZT (by omega)];done))) ?_)
   obtain ⟨x2,hx2⟩:∃x,a[i - 1]? =some x:=⟨_,List.getElem?_eq_getElem (by first | exact hw _ (List.mem_of_getElem? hx1) | omega)⟩
   refine VRunD.free Y (VWant.on Y Y (dy fhg22_2)) Y (OF.indexAddrR (row:=(Qa false x2)) (i:=i - 1) (tv (rd 4 Qa a) Y) (tv (tN (i - 1)) Y) Y (QL _ hx2) QD Qf Q2) (VRunD.free Y (VWant.on Y Y (dy fhg22_2)) Y (B.fieldAddrR (us:=(Qa false x2)) (tv (T.rp (Qa false x2)) Y) (lb Y) QW Y) (VRunD.look Y (VWant.on Y Y (dy fhg22_2)) Y (OL.loadR1 (t:=(tI x2.Cell)) (tv (T.rp (Qa false x2)) Y) Y ZC) (VRunD.free Y (VWant.on Y Y (dy fhg22_2)) Y (OF.fieldAddrO (tv (T.op 0 0) Y) QW) (VRunD.look Y (VWant.on Y Y (dy fhg22_2)) Y (OL.loadO1 (t:=(tI x1.Cell)) (tv (T.op 0 0) Y) Y Y ZC) (VRunD.free Y (VWant.on Y Y (dy fhg22_2)) Y (xge (tv (tI x2.Cell) Y) (tv (tI x1.Cell) Y)) (VRunD.free Y (VWant.on Y Y (nz fhg19_1)) Y (OF.pickT (VEv.tmpB Y (dy fhg22_2)) (tv (tB (decide (x1.Cell≤x2.Cell))) Y)) (fD (OF.pickF (VEv.tmpB Y (nz fhg19_1)) (tv (tB (decide (x1.Cell≤x2.Cell))) Y)) Y Y (mD (tB (decide (x1.Cell≤x2.Cell))) Y Y ?_))))))))
   refine gw (x1.Cell≤x2.Cell) (fun fhg34_3=> ?_) fun fhg34_3=> ?_
   ·refine oD Y Y (dy fhg34_3) Y ?_
    refine oD Y Y (dy fhg34_3) Y (oD Y Y (dy fhg34_3) Y (oD Y Y (dy fhg34_3) Y (fD (OF.pickT (VEv.tmpB Y (dy fhg34_3)) (VEv.bool true)) Y Y (mD (tB true) Y Y (VRunD.off Y (VWant.not (b:=true) Y Y Y) (VRunD.off Y (VWant.not (b:=true) Y Y Y) (VRunD.off Y (VWant.not (b:=true) Y Y Y) (VRunD.off Y (VWant.not (b:=true) Y Y Y) (fD (OF.pickT (tv (tB true) Y) (VEv.bool true)) Y Y (mD (tB true) Y Y (VRunD.off Y (VWant.not (b:=true) Y Y Y) ?_)))))))))))
    refine VRunD.off Y (VWant.not (b:=true) Y Y Y) (VRunD.off Y (VWant.not (b:=true) Y Y Y) (VRunD.off Y (VWant.not (b:=true) Y Y Y) (fD (OF.pickT (tv (tB true) Y) (VEv.bool true)) Y Y (mD (tB true) Y Y (VRunD.off Y (VWant.not (b:=true) Y Y Y) (VRunD.off Y (VWant.not (b:=true) Y Y Y) (VRunD.off Y (VWant.not (b:=true) Y Y Y) (VRunD.off Y (VWant.not (b:=true) Y Y Y) (fD (OF.pickT (tv (tB true) Y) (VEv.bool true)) Y Y (VRunD.nil (tn ?_)))))))))))
    refine ct Y (sr (fO (OF.assign (VEv.bool false)) (nt (rt (vinB.r (tr (tr (vinB.r (tr (vb (b':=false) Y ?_))))))))))
    first | (refine Zw ⟨fun h=>⟨by omega,QS hI' fhc0⟩,fun h=>by have:=h.1;omega⟩) | (symm;rw [decide_eq_false_iff_not];rintro ⟨_,h2⟩;obtain ⟨y,hy,h3,h4,h5,h6,h7,h8⟩:=h2 i fhc0;obtain rfl:=Qk hx1 hy;first | omega | contradiction | (obtain ⟨z,hz,h9⟩:=h8 (by omega);obtain rfl:=Qk hx2 hz;omega) | (simp_all;done))
   refine VRunD.free Y (VWant.on Y Y (dz fhg34_3)) Y (OF.fieldAddrO (tv (T.op 0 0) Y) Zc) (VRunD.look Y (VWant.on Y Y (dz fhg34_3)) Y (OL.loadO1 (t:=(tS x1.Letter)) (tv (T.op 0 1) Y) Y Y st9) (VRunD.look Y (VWant.on Y Y (dz fhg34_3)) Y (B.lenS (tv (tS x1.Letter) Y) U9) (VRunD.free Y (VWant.on Y Y (dz fhg34_3)) Y (B.neq (c:=(!(decide (x1.Letter.size=1)))) (tv (tN x1.Letter.size) Y) (VEv.int .i64 1) (by first | exact hw _ (List.mem_of_getElem? hx1) | (exact Qcg (by omega)))) (fD (OF.pickF (VEv.tmpB Y (dz fhg34_3)) (tv (tB (!(decide (x1.Letter.size=1)))) Y)) Y Y (mD (tB (!(decide (x1.Letter.size=1)))) Y Y ?_)))))
   refine gn (x1.Letter.size=1) (fun fhg40_4=> ?_) fun fhg40_4=> ?_
   ·refine oD Y Y (ny fhg40_4) Y ?_
    refine oD Y Y (ny fhg40_4) Y (oD Y Y (ny fhg40_4) Y (oD Y Y (ny fhg40_4) Y (fD (OF.pickT (VEv.tmpB Y (ny fhg40_4)) (VEv.bool true)) Y Y (mD (tB true) Y Y (VRunD.off Y (VWant.not (b:=true) Y Y Y) (VRunD.off Y (VWant.not (b:=true) Y Y Y) (VRunD.off Y (VWant.not (b:=true) Y Y Y) (VRunD.off Y (VWant.not (b:=true) Y Y Y) (fD (OF.pickT (tv (tB true) Y) (VEv.bool true)) Y Y (mD (tB true) Y Y (VRunD.off Y (VWant.not (b:=true) Y Y Y) ?_)))))))))))
    refine VRunD.off Y (VWant.not (b:=true) Y Y Y) (VRunD.off Y (VWant.not (b:=true) Y Y Y) (VRunD.off Y (VWant.not (b:=true) Y Y Y) (fD (OF.pickT (tv (tB true) Y) (VEv.bool true)) Y Y (VRunD.nil (tn (ct Y (sr (fO (OF.assign (VEv.bool false)) (nt (rt (vinB.r ?_)))))))))))
    refine tr (tr (vinB.r (tr (vb (b':=false) Y ?_))))
    first | (refine Zw ⟨fun h=>⟨by omega,QS hI' fhc0⟩,fun h=>by have:=h.1;omega⟩) | (symm;rw [decide_eq_false_iff_not];rintro ⟨_,h2⟩;obtain ⟨y,hy,h3,h4,h5,h6,h7,h8⟩:=h2 i fhc0;obtain rfl:=Qk hx1 hy;first | omega | contradiction | (obtain ⟨z,hz,h9⟩:=h8 (by omega);obtain rfl:=Qk hx2 hz;omega) | (simp_all;done))
   refine VRunD.free Y (VWant.on Y Y (nz fhg40_4)) Y (OF.fieldAddrO (tv (T.op 0 0) Y) Zc) (VRunD.look Y (VWant.on Y Y (nz fhg40_4)) Y (OL.loadO1 (t:=(tS x1.Letter)) (tv (T.op 0 1) Y) Y Y st9) (VRunD.quiet (bi:= [26,24,22,20,21,23,18,7,5,6,16,14,15,12,8,10,9,11,13,17,3,1,0,2,4,19,25,27]) Y (VWant.on Y Y (nz fhg40_4)) Y Y Y bn (cS (vc (tv (tS x1.Letter) Y) vn) (Yd Y) (Yj (n+0) x1.Letter (by first | exact hw _ (List.mem_of_getElem? hx1) | assumption | omega)) Y Y) (VRunD.free Y (VWant.on Y Y (nz fhg40_4)) Y (QV (tv (tB (decide (Zm x1.Letter))) Y)) (fD (OF.pickF (VEv.tmpB Y (nz fhg40_4)) (tv (tB (!(decide (Zm x1.Letter)))) Y)) Y Y (mD (tB (!(decide (Zm x1.Letter)))) Y Y ?_)))))
   refine gn (Zm x1.Letter) (fun fhg46_5=> ?_) fun fhg46_5=> ?_
   ·refine oD Y Y (ny fhg46_5) Y ?_
    refine oD Y Y (ny fhg46_5) Y (oD Y Y (ny fhg46_5) Y (oD Y Y (ny fhg46_5) Y (fD (OF.pickT (VEv.tmpB Y (ny fhg46_5)) (VEv.bool true)) Y Y (mD (tB true) Y Y (VRunD.off Y (VWant.not (b:=true) Y Y Y) (VRunD.off Y (VWant.not (b:=true) Y Y Y) (VRunD.off Y (VWant.not (b:=true) Y Y Y) (VRunD.off Y (VWant.not (b:=true) Y Y Y) (fD (OF.pickT (tv (tB true) Y) (VEv.bool true)) Y Y (VRunD.nil (tn ?_)))))))))))
    refine ct Y (sr (fO (OF.assign (VEv.bool false)) (nt (rt (vinB.r (tr (tr (vinB.r (tr (vb (b':=false) Y ?_))))))))))
    first | (refine Zw ⟨fun h=>⟨by omega,QS hI' fhc0⟩,fun h=>by have:=h.1;omega⟩) | (symm;rw [decide_eq_false_iff_not];rintro ⟨_,h2⟩;obtain ⟨y,hy,h3,h4,h5,h6,h7,h8⟩:=h2 i fhc0;obtain rfl:=Qk hx1 hy;first | omega | contradiction | (obtain ⟨z,hz,h9⟩:=h8 (by omega);obtain rfl:=Qk hx2 hz;omega) | (simp_all;done))
   refine VRunD.free Y (VWant.on Y Y (nz fhg46_5)) Y (OF.fieldAddrO (tv (T.op 0 0) Y) Zb) (VRunD.look Y (VWant.on Y Y (nz fhg46_5)) Y (OL.loadO1 (t:=(tI x1.Tick)) (tv (T.op 0 2) Y) Y Y ZC) (VRunD.quiet (bi:= [32,30,28,26,27,29,24,22,20,21,23,18,7,5,6,16,14,15,12,8,10,9,11,13,17,3,1,0,2,4,19,25,31,33]) Y (VWant.on Y Y (nz fhg46_5)) Y Y Y bn (cS (vc (tv (tI x1.Tick) Y) (vc (VEv.int .i64 0) (vc (VEv.int .i64 1000) vn))) (Yd Y) (Zo (n+1) x1.Tick 0 1000) Y Y) (VRunD.free Y (VWant.on Y Y (nz fhg46_5)) Y (QV (tv (tB (decide (0≤x1.Tick∧x1.Tick≤1000))) Y)) (fD (OF.pickF (VEv.tmpB Y (nz fhg46_5)) (tv (tB (!(decide (0≤x1.Tick∧x1.Tick≤1000)))) Y)) Y Y (mD (tB (!(decide (0≤x1.Tick∧x1.Tick≤1000)))) Y Y ?_)))))
   refine gn (0≤x1.Tick∧x1.Tick≤1000) (fun fhg52_6=> ?_) fun fhg52_6=> ?_
   ·refine oD Y Y (ny fhg52_6) Y ?_
    refine oD Y Y (ny fhg52_6) Y (oD Y Y (ny fhg52_6) Y (oD Y Y (ny fhg52_6) Y (fD (OF.pickT (VEv.tmpB Y (ny fhg52_6)) (VEv.bool true)) Y Y (VRunD.nil (tn (ct Y (sr (fO (OF.assign (VEv.bool false)) (nt (rt (vinB.r ?_)))))))))))
    refine tr (tr (vinB.r (tr (vb (b':=false) Y ?_))))
    first | (refine Zw ⟨fun h=>⟨by omega,QS hI' fhc0⟩,fun h=>by have:=h.1;omega⟩) | (symm;rw [decide_eq_false_iff_not];rintro ⟨_,h2⟩;obtain ⟨y,hy,h3,h4,h5,h6,h7,h8⟩:=h2 i fhc0;obtain rfl:=Qk hx1 hy;first | omega | contradiction | (obtain ⟨z,hz,h9⟩:=h8 (by omega);obtain rfl:=Qk hx2 hz;omega) | (simp_all;done))
   refine VRunD.free Y (VWant.on Y Y (nz fhg52_6)) Y (OF.fieldAddrO (tv (T.op 0 0) Y) Ze) (VRunD.look Y (VWant.on Y Y (nz fhg52_6)) Y (OL.loadO1 (t:=(tI x1.Who)) (tv (T.op 0 3) Y) Y Y ZC) (VRunD.quiet (bi:= [38,36,34,32,33,35,30,28,26,27,29,24,22,20,21,23,18,7,5,6,16,14,15,12,8,10,9,11,13,17,3,1,0,2,4,19,25,31,37,39]) Y (VWant.on Y Y (nz fhg52_6)) Y Y Y bn (cS (vc (tv (tI x1.Who) Y) (vc (VEv.int .i64 1) (vc (VEv.int .i64 9) vn))) (Yd Y) (Zo (n+1) x1.Who 1 9) Y Y) (VRunD.free Y (VWant.on Y Y (nz fhg52_6)) Y (QV (tv (tB (decide (1≤x1.Who∧x1.Who≤9))) Y)) (fD (OF.pickF (VEv.tmpB Y (nz fhg52_6)) (tv (tB (!(decide (1≤x1.Who∧x1.Who≤9)))) Y)) Y Y (VRunD.nil (tn ?_))))))
   refine cn (1≤x1.Who∧x1.Who≤9) Y (fun fhc1=> ?_) fun fhc1=> ?_
   ·refine sr ?_
    refine fO (OF.assign (VEv.bool false)) (nt (rt (vinB.r (tr (tr (vinB.r (tr (vb (b':=false) Y ?_))))))))
    first | (refine Zw ⟨fun h=>⟨by omega,QS hI' fhc0⟩,fun h=>by have:=h.1;omega⟩) | (symm;rw [decide_eq_false_iff_not];rintro ⟨_,h2⟩;obtain ⟨y,hy,h3,h4,h5,h6,h7,h8⟩:=h2 i fhc0;obtain rfl:=Qk hx1 hy;first | omega | contradiction | (obtain ⟨z,hz,h9⟩:=h8 (by omega);obtain rfl:=Qk hx2 hz;omega) | (simp_all;done))
   refine sk (vinB.n (tn (VRun.region (mO (tN i) Y (fO (ZV (tv (tN i) Y) (VEv.int .i64 1) (by first | exact hw _ (List.mem_of_getElem? hx1) | omega)) (aO (tN (i+1)) Y (VRunO.nil (tn ?_))))))))
   refine ⟨(i+1:Nat),?_,?_,Wk.mk (fun k=>k) ?_ ?_ ?_⟩
   ·refine Z4 hI0 fhc0 ⟨x1,hx1,by omega,by omega,by assumption,by omega,by omega,fun h0=> ?_⟩
    first | (exact absurd h0 (by omega)) | (exact ⟨x2,hx2,by omega⟩)
   ·first | omega | (simp only [];omega) | (show _<_;omega) | (simp;omega)
   ·exact (b2 (b2 bn))
   ·exact bn
   ·exact nd Y
  refine oD Y Y (dz fhg22_2) Y (oD Y Y (dz fhg22_2) Y (oD Y Y (dz fhg22_2) Y (oD Y Y (dz fhg22_2) Y (oD Y Y (dz fhg22_2) Y (oD Y Y (dz fhg22_2) Y (oD Y Y (dz fhg22_2) Y (oD Y Y (dz fhg22_2) Y (oD Y Y (dz fhg22_2) Y (VRunD.free Y (VWant.on Y Y (nz fhg19_1)) Y (OF.pickF (VEv.tmpB Y (dz fhg22_2)) (VEv.bool false)) (fD (OF.pickF (VEv.tmpB Y (nz fhg19_1)) (tv (tB false) Y)) Y Y (mD (tB false) Y Y ?_)))))))))))
  refine VRunD.free Y (VWant.on (b:=false) Y Y Y) Y (OF.fieldAddrO (tv (T.op 0 0) Y) Zc) (VRunD.look Y (VWant.on (b:=false) Y Y Y) Y (OL.loadO1 (t:=(tS x1.Letter)) (tv (T.op 0 1) Y) Y Y st9) (VRunD.look Y (VWant.on (b:=false) Y Y Y) Y (B.lenS (tv (tS x1.Letter) Y) U9) (VRunD.free Y (VWant.on (b:=false) Y Y Y) Y (B.neq (c:=(!(decide (x1.Letter.size=1)))) (tv (tN x1.Letter.size) Y) (VEv.int .i64 1) (by first | exact hw _ (List.mem_of_getElem? hx1) | (exact Qcg (by omega)))) (fD (OF.pickF (tv (tB false) Y) (tv (tB (!(decide (x1.Letter.size=1)))) Y)) Y Y (mD (tB (!(decide (x1.Letter.size=1)))) Y Y ?_)))))
  refine gn (x1.Letter.size=1) (fun fhg40_7=> ?_) fun fhg40_7=> ?_
  ·refine oD Y Y (ny fhg40_7) Y ?_
   refine oD Y Y (ny fhg40_7) Y (oD Y Y (ny fhg40_7) Y (oD Y Y (ny fhg40_7) Y (fD (OF.pickT (VEv.tmpB Y (ny fhg40_7)) (VEv.bool true)) Y Y (mD (tB true) Y Y (VRunD.off Y (VWant.not (b:=true) Y Y Y) (VRunD.off Y (VWant.not (b:=true) Y Y Y) (VRunD.off Y (VWant.not (b:=true) Y Y Y) (VRunD.off Y (VWant.not (b:=true) Y Y Y) (fD (OF.pickT (tv (tB true) Y) (VEv.bool true)) Y Y (mD (tB true) Y Y (VRunD.off Y (VWant.not (b:=true) Y Y Y) ?_)))))))))))
   refine VRunD.off Y (VWant.not (b:=true) Y Y Y) (VRunD.off Y (VWant.not (b:=true) Y Y Y) (VRunD.off Y (VWant.not (b:=true) Y Y Y) (fD (OF.pickT (tv (tB true) Y) (VEv.bool true)) Y Y (VRunD.nil (tn (ct Y (sr (fO (OF.assign (VEv.bool false)) (nt (rt (vinB.r ?_)))))))))))
   refine tr (tr (vinB.r (tr (vb (b':=false) Y ?_))))
   first | (refine Zw ⟨fun h=>⟨by omega,QS hI' fhc0⟩,fun h=>by have:=h.1;omega⟩) | (symm;rw [decide_eq_false_iff_not];rintro ⟨_,h2⟩;obtain ⟨y,hy,h3,h4,h5,h6,h7,h8⟩:=h2 i fhc0;obtain rfl:=Qk hx1 hy;first | omega | contradiction | (obtain ⟨z,hz,h9⟩:=h8 (by omega);obtain rfl:=Qk hx2 hz;omega) | (simp_all;done))
  refine VRunD.free Y (VWant.on Y Y (nz fhg40_7)) Y (OF.fieldAddrO (tv (T.op 0 0) Y) Zc) (VRunD.look Y (VWant.on Y Y (nz fhg40_7)) Y (OL.loadO1 (t:=(tS x1.Letter)) (tv (T.op 0 1) Y) Y Y st9) (VRunD.quiet (bi:= [26,24,22,20,21,23,18,7,5,6,16,14,15,12,8,10,9,11,13,17,3,1,0,2,4,19,25,27]) Y (VWant.on Y Y (nz fhg40_7)) Y Y Y bn (cS (vc (tv (tS x1.Letter) Y) vn) (Yd Y) (Yj (n+0) x1.Letter (by first | exact hw _ (List.mem_of_getElem? hx1) | assumption | omega)) Y Y) (VRunD.free Y (VWant.on Y Y (nz fhg40_7)) Y (QV (tv (tB (decide (Zm x1.Letter))) Y)) (fD (OF.pickF (VEv.tmpB Y (nz fhg40_7)) (tv (tB (!(decide (Zm x1.Letter)))) Y)) Y Y (mD (tB (!(decide (Zm x1.Letter)))) Y Y ?_)))))
  refine gn (Zm x1.Letter) (fun fhg46_8=> ?_) fun fhg46_8=> ?_
  ·refine oD Y Y (ny fhg46_8) Y ?_
   refine oD Y Y (ny fhg46_8) Y (oD Y Y (ny fhg46_8) Y (oD Y Y (ny fhg46_8) Y (fD (OF.pickT (VEv.tmpB Y (ny fhg46_8)) (VEv.bool true)) Y Y (mD (tB true) Y Y (VRunD.off Y (VWant.not (b:=true) Y Y Y) (VRunD.off Y (VWant.not (b:=true) Y Y Y) (VRunD.off Y (VWant.not (b:=true) Y Y Y) (VRunD.off Y (VWant.not (b:=true) Y Y Y) (fD (OF.pickT (tv (tB true) Y) (VEv.bool true)) Y Y (VRunD.nil (tn ?_)))))))))))
   refine ct Y (sr (fO (OF.assign (VEv.bool false)) (nt (rt (vinB.r (tr (tr (vinB.r (tr (vb (b':=false) Y ?_))))))))))
   first | (refine Zw ⟨fun h=>⟨by omega,QS hI' fhc0⟩,fun h=>by have:=h.1;omega⟩) | (symm;rw [decide_eq_false_iff_not];rintro ⟨_,h2⟩;obtain ⟨y,hy,h3,h4,h5,h6,h7,h8⟩:=h2 i fhc0;obtain rfl:=Qk hx1 hy;first | omega | contradiction | (obtain ⟨z,hz,h9⟩:=h8 (by omega);obtain rfl:=Qk hx2 hz;omega) | (simp_all;done))
  refine VRunD.free Y (VWant.on Y Y (nz fhg46_8)) Y (OF.fieldAddrO (tv (T.op 0 0) Y) Zb) (VRunD.look Y (VWant.on Y Y (nz fhg46_8)) Y (OL.loadO1 (t:=(tI x1.Tick)) (tv (T.op 0 2) Y) Y Y ZC) (VRunD.quiet (bi:= [32,30,28,26,27,29,24,22,20,21,23,18,7,5,6,16,14,15,12,8,10,9,11,13,17,3,1,0,2,4,19,25,31,33]) Y (VWant.on Y Y (nz fhg46_8)) Y Y Y bn (cS (vc (tv (tI x1.Tick) Y) (vc (VEv.int .i64 0) (vc (VEv.int .i64 1000) vn))) (Yd Y) (Zo (n+1) x1.Tick 0 1000) Y Y) (VRunD.free Y (VWant.on Y Y (nz fhg46_8)) Y (QV (tv (tB (decide (0≤x1.Tick∧x1.Tick≤1000))) Y)) (fD (OF.pickF (VEv.tmpB Y (nz fhg46_8)) (tv (tB (!(decide (0≤x1.Tick∧x1.Tick≤1000)))) Y)) Y Y (mD (tB (!(decide (0≤x1.Tick∧x1.Tick≤1000)))) Y Y ?_)))))
  refine gn (0≤x1.Tick∧x1.Tick≤1000) (fun fhg52_9=> ?_) fun fhg52_9=> ?_
  ·refine oD Y Y (ny fhg52_9) Y ?_
   refine oD Y Y (ny fhg52_9) Y (oD Y Y (ny fhg52_9) Y (oD Y Y (ny fhg52_9) Y (fD (OF.pickT (VEv.tmpB Y (ny fhg52_9)) (VEv.bool true)) Y Y (VRunD.nil (tn (ct Y (sr (fO (OF.assign (VEv.bool false)) (nt (rt (vinB.r ?_)))))))))))
   refine tr (tr (vinB.r (tr (vb (b':=false) Y ?_))))
   first | (refine Zw ⟨fun h=>⟨by omega,QS hI' fhc0⟩,fun h=>by have:=h.1;omega⟩) | (symm;rw [decide_eq_false_iff_not];rintro ⟨_,h2⟩;obtain ⟨y,hy,h3,h4,h5,h6,h7,h8⟩:=h2 i fhc0;obtain rfl:=Qk hx1 hy;first | omega | contradiction | (obtain ⟨z,hz,h9⟩:=h8 (by omega);obtain rfl:=Qk hx2 hz;omega) | (simp_all;done))
  refine VRunD.free Y (VWant.on Y Y (nz fhg52_9)) Y (OF.fieldAddrO (tv (T.op 0 0) Y) Ze) (VRunD.look Y (VWant.on Y Y (nz fhg52_9)) Y (OL.loadO1 (t:=(tI x1.Who)) (tv (T.op 0 3) Y) Y Y ZC) (VRunD.quiet (bi:= [38,36,34,32,33,35,30,28,26,27,29,24,22,20,21,23,18,7,5,6,16,14,15,12,8,10,9,11,13,17,3,1,0,2,4,19,25,31,37,39]) Y (VWant.on Y Y (nz fhg52_9)) Y Y Y bn (cS (vc (tv (tI x1.Who) Y) (vc (VEv.int .i64 1) (vc (VEv.int .i64 9) vn))) (Yd Y) (Zo (n+1) x1.Who 1 9) Y Y) (VRunD.free Y (VWant.on Y Y (nz fhg52_9)) Y (QV (tv (tB (decide (1≤x1.Who∧x1.Who≤9))) Y)) (fD (OF.pickF (VEv.tmpB Y (nz fhg52_9)) (tv (tB (!(decide (1≤x1.Who∧x1.Who≤9)))) Y)) Y Y (VRunD.nil (tn ?_))))))
  refine cn (1≤x1.Who∧x1.Who≤9) Y (fun fhc1=> ?_) fun fhc1=> ?_
  ·refine sr ?_
   refine fO (OF.assign (VEv.bool false)) (nt (rt (vinB.r (tr (tr (vinB.r (tr (vb (b':=false) Y ?_))))))))
   first | (refine Zw ⟨fun h=>⟨by omega,QS hI' fhc0⟩,fun h=>by have:=h.1;omega⟩) | (symm;rw [decide_eq_false_iff_not];rintro ⟨_,h2⟩;obtain ⟨y,hy,h3,h4,h5,h6,h7,h8⟩:=h2 i fhc0;obtain rfl:=Qk hx1 hy;first | omega | contradiction | (obtain ⟨z,hz,h9⟩:=h8 (by omega);obtain rfl:=Qk hx2 hz;omega) | (simp_all;done))
  refine sk (vinB.n (tn (VRun.region (mO (tN i) Y (fO (ZV (tv (tN i) Y) (VEv.int .i64 1) (by first | exact hw _ (List.mem_of_getElem? hx1) | omega)) (aO (tN (i+1)) Y (VRunO.nil (tn ?_))))))))
  refine ⟨(i+1:Nat),?_,?_,Wk.mk (fun k=>k) ?_ ?_ ?_⟩
  ·refine Z4 hI0 fhc0 ⟨x1,hx1,by omega,by omega,by assumption,by omega,by omega,fun h0=> ?_⟩
   first | (exact absurd h0 (by omega)) | (exact ⟨x2,hx2,by omega⟩)
  ·first | omega | (simp only [];omega) | (show _<_;omega) | (simp;omega)
  ·exact (b2 (b2 bn))
  ·exact bn
  ·exact nd Y
 refine VRun.exit (vthn.e (vthn.e (vinB.e (tn (sr (mO (rd 4 Qa a) Y (lO (B.lenR (m:=a.length) (tv (rd 4 Qa a) Y) QD (List.length_map ..)) (fO (B.leq (c:=(decide (a.length≤40))) (tv (tN a.length) Y) (VEv.int .i64 40) (by first | exact hw _ (List.mem_of_getElem? hx1) | (exact Zw (by omega)))) (aO (tB (decide (a.length≤40))) Y (nt (rt ?_)))))))))))
 refine vb (b':=(decide (a.length≤40))) Y ?_
 first | (refine Zw ⟨fun h=>⟨by omega,QS hI' fhc0⟩,fun h=>by have:=h.1;omega⟩) | (symm;rw [decide_eq_false_iff_not];rintro ⟨_,h2⟩;obtain ⟨y,hy,h3,h4,h5,h6,h7,h8⟩:=h2 i fhc0;obtain rfl:=Qk hx1 hy;first | omega | contradiction | (obtain ⟨z,hz,h9⟩:=h8 (by omega);obtain rfl:=Qk hx2 hz;omega) | (simp_all;done))
theorem Qx (n:Nat) (a:List D.Note) (hz:zL Qn a≤2*mx):Pure (QK Try.prog (n+3)) 31 [(rd 4 Qa a)] (tB (decide (Qb a))):=by
 refine Pure.intro (rs:= [ResultVar.tmp 2]) Try.func31 Y Y Y (E0:= [(0,(rd 4 Qa a))]) Y ?_
 obtain ⟨hlim,hmx,hmax⟩:=Z3
 have ha:=Qac (z:=Qn) a
 have hw:∀x∈a,x.Letter.size≤maxLen:=fun x hx=>by have h1:=Qde (z:=Qn) hx;simp only [Qn] at h1;omega
 refine sr (fO (OF.assign (VEv.bool false)) (nt (sq (sr (mO (rd 4 Qa a) Y (lO (B.lenR (m:=a.length) (tv (rd 4 Qa a) Y) QD (List.length_map ..)) (fO (B.gtr (c:=(decide (40<a.length))) (tv (tN a.length) Y) (VEv.int .i64 40) (by first | exact hw _ (List.mem_of_getElem? hx1) | (exact Zw (by omega)))) (nt ?_))))))))
 refine cd (40<a.length) Y (fun fhc0=> ?_) fun fhc0=> ?_
 ·refine sr ?_
  refine fO (OF.assign (VEv.bool false)) (nt (rt (tr (vb (b':=false) Y ?_))))
  first | (symm;rw [decide_eq_false_iff_not];rintro ⟨h2,_⟩;omega) | (symm;rw [decide_eq_true_eq];exact ⟨by omega,QS hI' fhc1⟩) | (symm;rw [decide_eq_false_iff_not];rintro ⟨_,h2⟩;obtain ⟨y,hy,h3,h4,h5,h6,h7,h8⟩:=h2 i fhc1;obtain rfl:=Qk hx1 hy;first | omega | contradiction | (obtain ⟨z,hz,h9⟩:=h8 (by omega);obtain rfl:=Qk hx2 hz;omega) | (simp_all;done))
 refine sk (tn (sq (sr (mO (rd 4 Qa a) Y (lO (B.lenR (m:=a.length) (tv (rd 4 Qa a) Y) QD (List.length_map ..)) (fO (OF.move (VEv.int .i64 0)) (nt (VRun.block ?_))))))))
 refine VRun.loop (A:=Nat) (fun s_=> [(0,(rd 4 Qa a)),(8,(rd 4 Qa a)),(9,(tN a.length)),(10,(tN s_))]) (fun s_=>JU []) 0 (fun s_=>s_≤a.length∧∀j,j<s_→Qab a j) (fun s_=>a.length - s_) (0:Nat) ?_ (Wk.mk (fun k=>k) ?_ ?_ ?_) ?_
 ·exact ⟨Nat.zero_le _,fun j hj=>by omega⟩
 ·exact (b2 (b2 (b2 (b2 bn))))
 ·exact bn
 ·exact nd Y
 rintro i (hI':i≤a.length∧∀j,j<i→Qab a j)
 show VRun _ _ _ [(0,(rd 4 Qa a)),(8,(rd 4 Qa a)),(9,(tN a.length)),(10,(tN i))] (JU []) 0 _
 have hI0:=hI'
 refine sr (fO (Qai (tv (tN i) Y) (tv (tN a.length) Y)) (nt (sq ?_)))
 refine cd (i<a.length) Y (fun fhc1=> ?_) fun fhc1=> ?_
 ·refine sk ?_
  refine tn (sq (VRun.block (sr (mO (tN i) Y ?_))))
  obtain ⟨x1,hx1⟩:∃x,a[i]? =some x:=⟨_,List.getElem?_eq_getElem (by first | exact hw _ (List.mem_of_getElem? hx1) | omega)⟩
  refine fO (OF.indexAddrR (row:=(Qa false x1)) (i:=i) (tv (rd 4 Qa a) Y) (tv (tN i) Y) Y (QL _ hx1) QD Qf Q2) (lO (OL.loadRn (us:=(Qa false x1)) (tv (T.rp (Qa false x1)) Y) ZH Qf (lb Y) Y) (kO (B.alloc (t:=(T.agg [(tN 0),(tS ByteArray.empty),(tN 0),(tN 0)])) (ts:= [(tN 0),(tS ByteArray.empty),(tN 0),(tN 0)]) QE Qc5 nofun (fun _=> .agg _ _ Y (QbA (RL.cons (.int _ _) (RL.cons (.str _) (RL.cons (.int _ _) (RL.cons (.int _ _) (RL.nil _))))))) Y) (aO (tN i) Y (cO (B.storeW (us:=(Qa false x1)) (tv (T.op 0 0) Y) (tv (T.agg (Qa false x1)) Y) nofun Y Y Y Q2 Qf (bc Y (bc Y (bc Y (bc Y bn))))) (nt (sq (VRun.draw (B:= [[],[0],[0,1],[1,0,2],[1,0,2],[2,0,1,4],[4,5,2,0,1,3],[3,1,0,2,5,4,6],[6,4,5,2,0,1,3,7],[1,0,2],[2,0,1,9],[9,10,7,3,1,0,2,5,4,6,8],[8,6,4,5,3,7,10,9,11,1,0,2],[2,0,1,11,9,10,7,3,5,4,6,8,12],[12,8,6,4,5,3,7,10,9,11,1,0,2,13],[13,2,0,1,11,9,10,7,3,5,4,6,8,12,14],[14,12,8,6,4,5,3,7,10,9,11,1,0,2,13,15],[15,13,2,0,1,11,9,10,7,3,5,4,6,8,12,14,16],[16,14,15,17,12,8,6,4,5,3,7,10,9,11,1,0,2,13],[13,2,0,1,11,9,10,7,3,5,4,6,8,12,17,15,14,16,18],[18,16,14,15,17,12,8,6,4,5,3,7,10,9,11,1,0,2,13,19],[19,13,2,0,1,11,9,10,7,3,5,4,6,8,12,17,15,14,16,18,20],[20,18,16,14,15,17,12,8,6,4,5,3,7,10,9,11,1,0,2,13,19,21],[21,19,13,2,0,1,11,9,10,7,3,5,4,6,8,12,17,15,14,16,18,20,22],[22,20,21,23,18,16,14,15,17,12,8,6,4,5,3,7,10,9,11,1,0,2,13,19],[19,13,2,0,1,11,9,10,7,3,5,4,6,8,12,17,15,14,16,18,23,21,20,22,24],[24,22,20,21,23,18,16,14,15,17,12,8,6,4,5,3,7,10,9,11,1,0,2,13,19,25],[25,19,13,2,0,1,11,9,10,7,3,5,4,6,8,12,17,15,14,16,18,23,21,20,22,24,26],[26,24,22,20,21,23,18,16,14,15,17,12,8,6,4,5,3,7,10,9,11,1,0,2,13,19,25,27],[27,25,19,13,2,0,1,11,9,10,7,3,5,4,6,8,12,17,15,14,16,18,23,21,20,22,24,26,28],[28,26,27,29,24,22,20,21,23,18,16,14,15,17,12,8,6,4,5,3,7,10,9,11,1,0,2,13,19,25],[25,19,13,2,0,1,11,9,10,7,3,5,4,6,8,12,17,15,14,16,18,23,21,20,22,24,29,27,26,28,30],[30,28,26,27,29,24,22,20,21,23,18,16,14,15,17,12,8,6,4,5,3,7,10,9,11,1,0,2,13,19,25,31],[31,25,19,13,2,0,1,11,9,10,7,3,5,4,6,8,12,17,15,14,16,18,23,21,20,22,24,29,27,26,28,30,32],[32,30,28,26,27,29,24,22,20,21,23,18,16,14,15,17,12,8,6,4,5,3,7,10,9,11,1,0,2,13,19,25,31,33],[33,31,25,19,13,2,0,1,11,9,10,7,3,5,4,6,8,12,17,15,14,16,18,23,21,20,22,24,29,27,26,28,30,32,34],[34,32,33,35,30,28,26,27,29,24,22,20,21,23,18,16,14,15,17,12,8,6,4,5,3,7,10,9,11,1,0,2,13,19,25,31],[31,25,19,13,2,0,1,11,9,10,7,3,5,4,6,8,12,17,15,14,16,18,23,21,20,22,24,29,27,26,28,30,35,33,32,34,36],[36,34,32,33,35,30,28,26,27,29,24,22,20,21,23,18,16,14,15,17,12,8,6,4,5,3,7,10,9,11,1,0,2,13,19,25,31,37],[37,31,25,19,13,2,0,1,11,9,10,7,3,5,4,6,8,12,17,15,14,16,18,23,21,20,22,24,29,27,26,28,30,35,33,32,34,36,38],[38,36,34,32,33,35,30,28,26,27,29,24,22,20,21,23,18,16,14,15,17,12,8,6,4,5,3,7,10,9,11,1,0,2,13,19,25,31,37,39],[39,37,31,25,19,13,2,0,1,11,9,10,7,3,5,4,6,8,12,17,15,14,16,18,23,21,20,22,24,29,27,26,28,30,35,33,32,34,36,38,40],[40,38,39,41,36,34,32,33,35,30,28,26,27,29,24,22,20,21,23,18,16,14,15,17,12,8,6,4,5,3,7,10,9,11,1,0,2,13,19,25,31,37]]) (by kernel_rfl) (by kernel_rfl) ?_)))))))
  refine mD (tN i) Y Y (fD (B.gtr (c:=(decide (0<i))) (tv (tN i) Y) (VEv.int .i64 0) (by first | exact hw _ (List.mem_of_getElem? hx1) | (exact Zw (by omega)))) Y Y (mD (tB (decide (0<i))) Y Y ?_))
  refine gw (0<i) (fun fhg17_1=> ?_) fun fhg17_1=> ?_
  ·refine VRunD.free Y (VWant.on Y Y (dy fhg17_1)) Y (OF.move (tv (rd 4 Qa a) Y)) ?_
   refine VRunD.free Y (VWant.on Y Y (dy fhg17_1)) Y (OF.move (tv (tN i) Y)) (VRunD.free Y (VWant.on Y Y (dy fhg17_1)) Y (B.sub (n:=((i - 1:Nat):Int)) (tv (tN i) Y) (VEv.int .i64 1) (by first | exact hw _ (List.mem_of_getElem? hx1) | rfl | (rw [ZT (by omega)];omega) | (rw [ZT (by omega)];done))) ?_)
   obtain ⟨x2,hx2⟩:∃x,a[i - 1]? =some x:=⟨_,List.getElem?_eq_getElem (by first | exact hw _ (List.mem_of_getElem? hx1) | omega)⟩
   refine VRunD.free Y (VWant.on Y Y (dy fhg17_1)) Y (OF.indexAddrR (row:=(Qa false x2)) (i:=i - 1) (tv (rd 4 Qa a) Y) (tv (tN (i - 1)) Y) Y (QL _ hx2) QD Qf Q2) (VRunD.free Y (VWant.on Y Y (dy fhg17_1)) Y (B.fieldAddrR (us:=(Qa false x2)) (tv (T.rp (Qa false x2)) Y) (lb Y) QW Y) (VRunD.look Y (VWant.on Y Y (dy fhg17_1)) Y (OL.loadR1 (t:=(tI x2.Cell)) (tv (T.rp (Qa false x2)) Y) Y ZC) (VRunD.free Y (VWant.on Y Y (dy fhg17_1)) Y (OF.fieldAddrO (tv (T.op 0 0) Y) QW) (VRunD.look Y (VWant.on Y Y (dy fhg17_1)) Y (OL.loadO1 (t:=(tI x1.Cell)) (tv (T.op 0 0) Y) Y Y ZC) (VRunD.free Y (VWant.on Y Y (dy fhg17_1)) Y (xge (tv (tI x2.Cell) Y) (tv (tI x1.Cell) Y)) (fD (OF.pickT (VEv.tmpB Y (dy fhg17_1)) (tv (tB (decide (x1.Cell≤x2.Cell))) Y)) Y Y (mD (tB (decide (x1.Cell≤x2.Cell))) Y Y ?_)))))))
   refine gw (x1.Cell≤x2.Cell) (fun fhg28_2=> ?_) fun fhg28_2=> ?_
   ·refine oD Y Y (dy fhg28_2) Y ?_
    refine oD Y Y (dy fhg28_2) Y (oD Y Y (dy fhg28_2) Y (oD Y Y (dy fhg28_2) Y (fD (OF.pickT (VEv.tmpB Y (dy fhg28_2)) (VEv.bool true)) Y Y (mD (tB true) Y Y (VRunD.off Y (VWant.not (b:=true) Y Y Y) (VRunD.off Y (VWant.not (b:=true) Y Y Y) (VRunD.off Y (VWant.not (b:=true) Y Y Y) (VRunD.off Y (VWant.not (b:=true) Y Y Y) (fD (OF.pickT (tv (tB true) Y) (VEv.bool true)) Y Y (mD (tB true) Y Y (VRunD.off Y (VWant.not (b:=true) Y Y Y) ?_)))))))))))
    refine VRunD.off Y (VWant.not (b:=true) Y Y Y) (VRunD.off Y (VWant.not (b:=true) Y Y Y) (VRunD.off Y (VWant.not (b:=true) Y Y Y) (fD (OF.pickT (tv (tB true) Y) (VEv.bool true)) Y Y (mD (tB true) Y Y (VRunD.off Y (VWant.not (b:=true) Y Y Y) (VRunD.off Y (VWant.not (b:=true) Y Y Y) (VRunD.off Y (VWant.not (b:=true) Y Y Y) (VRunD.off Y (VWant.not (b:=true) Y Y Y) (fD (OF.pickT (tv (tB true) Y) (VEv.bool true)) Y Y (mD (tB true) Y Y (VRunD.off Y (VWant.not (b:=true) Y Y Y) ?_)))))))))))
    refine VRunD.off Y (VWant.not (b:=true) Y Y Y) (VRunD.off Y (VWant.not (b:=true) Y Y Y) (VRunD.off Y (VWant.not (b:=true) Y Y Y) (fD (OF.pickT (tv (tB true) Y) (VEv.bool true)) Y Y (VRunD.nil (tn (ct Y (sr (fO (OF.assign (VEv.bool false)) (nt (rt (vinB.r ?_)))))))))))
    refine tr (tr (vinB.r (tr (vb (b':=false) Y ?_))))
    first | (symm;rw [decide_eq_false_iff_not];rintro ⟨h2,_⟩;omega) | (symm;rw [decide_eq_true_eq];exact ⟨by omega,QS hI' fhc1⟩) | (symm;rw [decide_eq_false_iff_not];rintro ⟨_,h2⟩;obtain ⟨y,hy,h3,h4,h5,h6,h7,h8⟩:=h2 i fhc1;obtain rfl:=Qk hx1 hy;first | omega | contradiction | (obtain ⟨z,hz,h9⟩:=h8 (by omega);obtain rfl:=Qk hx2 hz;omega) | (simp_all;done))
   refine VRunD.free Y (VWant.on Y Y (dz fhg28_2)) Y (OF.fieldAddrO (tv (T.op 0 0) Y) QW) (VRunD.look Y (VWant.on Y Y (dz fhg28_2)) Y (OL.loadO1 (t:=(tI x1.Cell)) (tv (T.op 0 0) Y) Y Y ZC) (VRunD.quiet (bi:= [14,12,8,6,4,5,3,7,10,9,11,1,0,2,13,15]) Y (VWant.on Y Y (dz fhg28_2)) Y Y Y bn (cS (vc (tv (tI x1.Cell) Y) (vc (VEv.int .i64 0) (vc (VEv.int .i64 35) vn))) (Yd Y) (QZ (n+1) x1.Cell 0 35) Y Y) (VRunD.free Y (VWant.on Y Y (dz fhg28_2)) Y (QV (tv (tB (decide (0≤x1.Cell∧x1.Cell≤35))) Y)) (fD (OF.pickF (VEv.tmpB Y (dz fhg28_2)) (tv (tB (!(decide (0≤x1.Cell∧x1.Cell≤35)))) Y)) Y Y (mD (tB (!(decide (0≤x1.Cell∧x1.Cell≤35)))) Y Y ?_)))))
   refine gn (0≤x1.Cell∧x1.Cell≤35) (fun fhg34_3=> ?_) fun fhg34_3=> ?_
   ·refine oD Y Y (ny fhg34_3) Y ?_
    refine oD Y Y (ny fhg34_3) Y (oD Y Y (ny fhg34_3) Y (oD Y Y (ny fhg34_3) Y (fD (OF.pickT (VEv.tmpB Y (ny fhg34_3)) (VEv.bool true)) Y Y (mD (tB true) Y Y (VRunD.off Y (VWant.not (b:=true) Y Y Y) (VRunD.off Y (VWant.not (b:=true) Y Y Y) (VRunD.off Y (VWant.not (b:=true) Y Y Y) (VRunD.off Y (VWant.not (b:=true) Y Y Y) (fD (OF.pickT (tv (tB true) Y) (VEv.bool true)) Y Y (mD (tB true) Y Y (VRunD.off Y (VWant.not (b:=true) Y Y Y) ?_)))))))))))
    refine VRunD.off Y (VWant.not (b:=true) Y Y Y) (VRunD.off Y (VWant.not (b:=true) Y Y Y) (VRunD.off Y (VWant.not (b:=true) Y Y Y) (fD (OF.pickT (tv (tB true) Y) (VEv.bool true)) Y Y (mD (tB true) Y Y (VRunD.off Y (VWant.not (b:=true) Y Y Y) (VRunD.off Y (VWant.not (b:=true) Y Y Y) (VRunD.off Y (VWant.not (b:=true) Y Y Y) (VRunD.off Y (VWant.not (b:=true) Y Y Y) (fD (OF.pickT (tv (tB true) Y) (VEv.bool true)) Y Y (VRunD.nil (tn ?_)))))))))))
    refine ct Y (sr (fO (OF.assign (VEv.bool false)) (nt (rt (vinB.r (tr (tr (vinB.r (tr (vb (b':=false) Y ?_))))))))))
    first | (symm;rw [decide_eq_false_iff_not];rintro ⟨h2,_⟩;omega) | (symm;rw [decide_eq_true_eq];exact ⟨by omega,QS hI' fhc1⟩) | (symm;rw [decide_eq_false_iff_not];rintro ⟨_,h2⟩;obtain ⟨y,hy,h3,h4,h5,h6,h7,h8⟩:=h2 i fhc1;obtain rfl:=Qk hx1 hy;first | omega | contradiction | (obtain ⟨z,hz,h9⟩:=h8 (by omega);obtain rfl:=Qk hx2 hz;omega) | (simp_all;done))
   refine VRunD.free Y (VWant.on Y Y (nz fhg34_3)) Y (OF.fieldAddrO (tv (T.op 0 0) Y) Zc) (VRunD.look Y (VWant.on Y Y (nz fhg34_3)) Y (OL.loadO1 (t:=(tS x1.Letter)) (tv (T.op 0 1) Y) Y Y st9) (VRunD.look Y (VWant.on Y Y (nz fhg34_3)) Y (B.lenS (tv (tS x1.Letter) Y) U9) (VRunD.free Y (VWant.on Y Y (nz fhg34_3)) Y (B.neq (c:=(!(decide (x1.Letter.size=1)))) (tv (tN x1.Letter.size) Y) (VEv.int .i64 1) (by first | exact hw _ (List.mem_of_getElem? hx1) | (exact Qcg (by omega)))) (fD (OF.pickF (VEv.tmpB Y (nz fhg34_3)) (tv (tB (!(decide (x1.Letter.size=1)))) Y)) Y Y (mD (tB (!(decide (x1.Letter.size=1)))) Y Y ?_)))))
   refine gn (x1.Letter.size=1) (fun fhg40_4=> ?_) fun fhg40_4=> ?_
   ·refine oD Y Y (ny fhg40_4) Y ?_
    refine oD Y Y (ny fhg40_4) Y (oD Y Y (ny fhg40_4) Y (oD Y Y (ny fhg40_4) Y (fD (OF.pickT (VEv.tmpB Y (ny fhg40_4)) (VEv.bool true)) Y Y (mD (tB true) Y Y (VRunD.off Y (VWant.not (b:=true) Y Y Y) (VRunD.off Y (VWant.not (b:=true) Y Y Y) (VRunD.off Y (VWant.not (b:=true) Y Y Y) (VRunD.off Y (VWant.not (b:=true) Y Y Y) (fD (OF.pickT (tv (tB true) Y) (VEv.bool true)) Y Y (mD (tB true) Y Y (VRunD.off Y (VWant.not (b:=true) Y Y Y) ?_)))))))))))
    refine VRunD.off Y (VWant.not (b:=true) Y Y Y) (VRunD.off Y (VWant.not (b:=true) Y Y Y) (VRunD.off Y (VWant.not (b:=true) Y Y Y) (fD (OF.pickT (tv (tB true) Y) (VEv.bool true)) Y Y (VRunD.nil (tn (ct Y (sr (fO (OF.assign (VEv.bool false)) (nt (rt (vinB.r ?_)))))))))))
    refine tr (tr (vinB.r (tr (vb (b':=false) Y ?_))))
    first | (symm;rw [decide_eq_false_iff_not];rintro ⟨h2,_⟩;omega) | (symm;rw [decide_eq_true_eq];exact ⟨by omega,QS hI' fhc1⟩) | (symm;rw [decide_eq_false_iff_not];rintro ⟨_,h2⟩;obtain ⟨y,hy,h3,h4,h5,h6,h7,h8⟩:=h2 i fhc1;obtain rfl:=Qk hx1 hy;first | omega | contradiction | (obtain ⟨z,hz,h9⟩:=h8 (by omega);obtain rfl:=Qk hx2 hz;omega) | (simp_all;done))
   refine VRunD.free Y (VWant.on Y Y (nz fhg40_4)) Y (OF.fieldAddrO (tv (T.op 0 0) Y) Zc) (VRunD.look Y (VWant.on Y Y (nz fhg40_4)) Y (OL.loadO1 (t:=(tS x1.Letter)) (tv (T.op 0 1) Y) Y Y st9) (VRunD.quiet (bi:= [26,24,22,20,21,23,18,16,14,15,17,12,8,6,4,5,3,7,10,9,11,1,0,2,13,19,25,27]) Y (VWant.on Y Y (nz fhg40_4)) Y Y Y bn (cS (vc (tv (tS x1.Letter) Y) vn) (Yd Y) (Yl (n+0) x1.Letter (by first | exact hw _ (List.mem_of_getElem? hx1) | assumption | omega)) Y Y) (VRunD.free Y (VWant.on Y Y (nz fhg40_4)) Y (QV (tv (tB (decide (Zm x1.Letter))) Y)) (fD (OF.pickF (VEv.tmpB Y (nz fhg40_4)) (tv (tB (!(decide (Zm x1.Letter)))) Y)) Y Y (mD (tB (!(decide (Zm x1.Letter)))) Y Y ?_)))))
   refine gn (Zm x1.Letter) (fun fhg46_5=> ?_) fun fhg46_5=> ?_
   ·refine oD Y Y (ny fhg46_5) Y ?_
    refine oD Y Y (ny fhg46_5) Y (oD Y Y (ny fhg46_5) Y (oD Y Y (ny fhg46_5) Y (fD (OF.pickT (VEv.tmpB Y (ny fhg46_5)) (VEv.bool true)) Y Y (mD (tB true) Y Y (VRunD.off Y (VWant.not (b:=true) Y Y Y) (VRunD.off Y (VWant.not (b:=true) Y Y Y) (VRunD.off Y (VWant.not (b:=true) Y Y Y) (VRunD.off Y (VWant.not (b:=true) Y Y Y) (fD (OF.pickT (tv (tB true) Y) (VEv.bool true)) Y Y (VRunD.nil (tn ?_)))))))))))
    refine ct Y (sr (fO (OF.assign (VEv.bool false)) (nt (rt (vinB.r (tr (tr (vinB.r (tr (vb (b':=false) Y ?_))))))))))
    first | (symm;rw [decide_eq_false_iff_not];rintro ⟨h2,_⟩;omega) | (symm;rw [decide_eq_true_eq];exact ⟨by omega,QS hI' fhc1⟩) | (symm;rw [decide_eq_false_iff_not];rintro ⟨_,h2⟩;obtain ⟨y,hy,h3,h4,h5,h6,h7,h8⟩:=h2 i fhc1;obtain rfl:=Qk hx1 hy;first | omega | contradiction | (obtain ⟨z,hz,h9⟩:=h8 (by omega);obtain rfl:=Qk hx2 hz;omega) | (simp_all;done))
   refine VRunD.free Y (VWant.on Y Y (nz fhg46_5)) Y (OF.fieldAddrO (tv (T.op 0 0) Y) Zb) (VRunD.look Y (VWant.on Y Y (nz fhg46_5)) Y (OL.loadO1 (t:=(tI x1.Tick)) (tv (T.op 0 2) Y) Y Y ZC) (VRunD.quiet (bi:= [32,30,28,26,27,29,24,22,20,21,23,18,16,14,15,17,12,8,6,4,5,3,7,10,9,11,1,0,2,13,19,25,31,33]) Y (VWant.on Y Y (nz fhg46_5)) Y Y Y bn (cS (vc (tv (tI x1.Tick) Y) (vc (VEv.int .i64 0) (vc (VEv.int .i64 1000) vn))) (Yd Y) (QZ (n+1) x1.Tick 0 1000) Y Y) (VRunD.free Y (VWant.on Y Y (nz fhg46_5)) Y (QV (tv (tB (decide (0≤x1.Tick∧x1.Tick≤1000))) Y)) (fD (OF.pickF (VEv.tmpB Y (nz fhg46_5)) (tv (tB (!(decide (0≤x1.Tick∧x1.Tick≤1000)))) Y)) Y Y (mD (tB (!(decide (0≤x1.Tick∧x1.Tick≤1000)))) Y Y ?_)))))
   refine gn (0≤x1.Tick∧x1.Tick≤1000) (fun fhg52_6=> ?_) fun fhg52_6=> ?_
   ·refine oD Y Y (ny fhg52_6) Y ?_
    refine oD Y Y (ny fhg52_6) Y (oD Y Y (ny fhg52_6) Y (oD Y Y (ny fhg52_6) Y (fD (OF.pickT (VEv.tmpB Y (ny fhg52_6)) (VEv.bool true)) Y Y (VRunD.nil (tn (ct Y (sr (fO (OF.assign (VEv.bool false)) (nt (rt (vinB.r ?_)))))))))))
    refine tr (tr (vinB.r (tr (vb (b':=false) Y ?_))))
    first | (symm;rw [decide_eq_false_iff_not];rintro ⟨h2,_⟩;omega) | (symm;rw [decide_eq_true_eq];exact ⟨by omega,QS hI' fhc1⟩) | (symm;rw [decide_eq_false_iff_not];rintro ⟨_,h2⟩;obtain ⟨y,hy,h3,h4,h5,h6,h7,h8⟩:=h2 i fhc1;obtain rfl:=Qk hx1 hy;first | omega | contradiction | (obtain ⟨z,hz,h9⟩:=h8 (by omega);obtain rfl:=Qk hx2 hz;omega) | (simp_all;done))
   refine VRunD.free Y (VWant.on Y Y (nz fhg52_6)) Y (OF.fieldAddrO (tv (T.op 0 0) Y) Ze) (VRunD.look Y (VWant.on Y Y (nz fhg52_6)) Y (OL.loadO1 (t:=(tI x1.Who)) (tv (T.op 0 3) Y) Y Y ZC) (VRunD.quiet (bi:= [38,36,34,32,33,35,30,28,26,27,29,24,22,20,21,23,18,16,14,15,17,12,8,6,4,5,3,7,10,9,11,1,0,2,13,19,25,31,37,39]) Y (VWant.on Y Y (nz fhg52_6)) Y Y Y bn (cS (vc (tv (tI x1.Who) Y) (vc (VEv.int .i64 1) (vc (VEv.int .i64 9) vn))) (Yd Y) (QZ (n+1) x1.Who 1 9) Y Y) (VRunD.free Y (VWant.on Y Y (nz fhg52_6)) Y (QV (tv (tB (decide (1≤x1.Who∧x1.Who≤9))) Y)) (fD (OF.pickF (VEv.tmpB Y (nz fhg52_6)) (tv (tB (!(decide (1≤x1.Who∧x1.Who≤9)))) Y)) Y Y (VRunD.nil (tn ?_))))))
   refine cn (1≤x1.Who∧x1.Who≤9) Y (fun fhc2=> ?_) fun fhc2=> ?_
   ·refine sr ?_
    refine fO (OF.assign (VEv.bool false)) (nt (rt (vinB.r (tr (tr (vinB.r (tr (vb (b':=false) Y ?_))))))))
    first | (symm;rw [decide_eq_false_iff_not];rintro ⟨h2,_⟩;omega) | (symm;rw [decide_eq_true_eq];exact ⟨by omega,QS hI' fhc1⟩) | (symm;rw [decide_eq_false_iff_not];rintro ⟨_,h2⟩;obtain ⟨y,hy,h3,h4,h5,h6,h7,h8⟩:=h2 i fhc1;obtain rfl:=Qk hx1 hy;first | omega | contradiction | (obtain ⟨z,hz,h9⟩:=h8 (by omega);obtain rfl:=Qk hx2 hz;omega) | (simp_all;done))
   refine sk (vinB.n (tn (VRun.region (fO (ZV (tv (tN i) Y) (VEv.int .i64 1) (by first | exact hw _ (List.mem_of_getElem? hx1) | omega)) (mO (tN (i+1)) Y (VRunO.nil (tn ?_)))))))
   refine ⟨(i+1:Nat),?_,?_,Wk.mk (fun k=>k) ?_ ?_ ?_⟩
   ·refine Z4 hI0 fhc1 ⟨x1,hx1,by omega,by omega,by assumption,by omega,by omega,fun h0=> ?_⟩
    first | (exact absurd h0 (by omega)) | (exact ⟨x2,hx2,by omega⟩)
   ·first | omega | (simp only [];omega) | (show _<_;omega) | (simp;omega)
   ·exact (b2 (b2 (b2 (b2 bn))))
   ·exact bn
   ·exact nd Y
  refine oD Y Y (dz fhg17_1) Y (oD Y Y (dz fhg17_1) Y (oD Y Y (dz fhg17_1) Y (oD Y Y (dz fhg17_1) Y (oD Y Y (dz fhg17_1) Y (oD Y Y (dz fhg17_1) Y (oD Y Y (dz fhg17_1) Y (oD Y Y (dz fhg17_1) Y (oD Y Y (dz fhg17_1) Y (fD (OF.pickF (VEv.tmpB Y (dz fhg17_1)) (VEv.bool false)) Y Y (mD (tB false) Y Y (VRunD.free Y (VWant.on (b:=false) Y Y Y) Y (OF.fieldAddrO (tv (T.op 0 0) Y) QW) ?_)))))))))))
  refine VRunD.look Y (VWant.on (b:=false) Y Y Y) Y (OL.loadO1 (t:=(tI x1.Cell)) (tv (T.op 0 0) Y) Y Y ZC) (VRunD.quiet (bi:= [14,12,8,6,4,5,3,7,10,9,11,1,0,2,13,15]) Y (VWant.on (b:=false) Y Y Y) Y Y Y bn (cS (vc (tv (tI x1.Cell) Y) (vc (VEv.int .i64 0) (vc (VEv.int .i64 35) vn))) (Yd Y) (QZ (n+1) x1.Cell 0 35) Y Y) (VRunD.free Y (VWant.on (b:=false) Y Y Y) Y (QV (tv (tB (decide (0≤x1.Cell∧x1.Cell≤35))) Y)) (fD (OF.pickF (tv (tB false) Y) (tv (tB (!(decide (0≤x1.Cell∧x1.Cell≤35)))) Y)) Y Y (mD (tB (!(decide (0≤x1.Cell∧x1.Cell≤35)))) Y Y ?_))))
  refine gn (0≤x1.Cell∧x1.Cell≤35) (fun fhg34_7=> ?_) fun fhg34_7=> ?_
  ·refine oD Y Y (ny fhg34_7) Y ?_
   refine oD Y Y (ny fhg34_7) Y (oD Y Y (ny fhg34_7) Y (oD Y Y (ny fhg34_7) Y (fD (OF.pickT (VEv.tmpB Y (ny fhg34_7)) (VEv.bool true)) Y Y (mD (tB true) Y Y (VRunD.off Y (VWant.not (b:=true) Y Y Y) (VRunD.off Y (VWant.not (b:=true) Y Y Y) (VRunD.off Y (VWant.not (b:=true) Y Y Y) (VRunD.off Y (VWant.not (b:=true) Y Y Y) (fD (OF.pickT (tv (tB true) Y) (VEv.bool true)) Y Y (mD (tB true) Y Y (VRunD.off Y (VWant.not (b:=true) Y Y Y) ?_)))))))))))
   refine VRunD.off Y (VWant.not (b:=true) Y Y Y) (VRunD.off Y (VWant.not (b:=true) Y Y Y) (VRunD.off Y (VWant.not (b:=true) Y Y Y) (fD (OF.pickT (tv (tB true) Y) (VEv.bool true)) Y Y (mD (tB true) Y Y (VRunD.off Y (VWant.not (b:=true) Y Y Y) (VRunD.off Y (VWant.not (b:=true) Y Y Y) (VRunD.off Y (VWant.not (b:=true) Y Y Y) (VRunD.off Y (VWant.not (b:=true) Y Y Y) (fD (OF.pickT (tv (tB true) Y) (VEv.bool true)) Y Y (VRunD.nil (tn ?_)))))))))))
   refine ct Y (sr (fO (OF.assign (VEv.bool false)) (nt (rt (vinB.r (tr (tr (vinB.r (tr (vb (b':=false) Y ?_))))))))))
   first | (symm;rw [decide_eq_false_iff_not];rintro ⟨h2,_⟩;omega) | (symm;rw [decide_eq_true_eq];exact ⟨by omega,QS hI' fhc1⟩) | (symm;rw [decide_eq_false_iff_not];rintro ⟨_,h2⟩;obtain ⟨y,hy,h3,h4,h5,h6,h7,h8⟩:=h2 i fhc1;obtain rfl:=Qk hx1 hy;first | omega | contradiction | (obtain ⟨z,hz,h9⟩:=h8 (by omega);obtain rfl:=Qk hx2 hz;omega) | (simp_all;done))
  refine VRunD.free Y (VWant.on Y Y (nz fhg34_7)) Y (OF.fieldAddrO (tv (T.op 0 0) Y) Zc) (VRunD.look Y (VWant.on Y Y (nz fhg34_7)) Y (OL.loadO1 (t:=(tS x1.Letter)) (tv (T.op 0 1) Y) Y Y st9) (VRunD.look Y (VWant.on Y Y (nz fhg34_7)) Y (B.lenS (tv (tS x1.Letter) Y) U9) (VRunD.free Y (VWant.on Y Y (nz fhg34_7)) Y (B.neq (c:=(!(decide (x1.Letter.size=1)))) (tv (tN x1.Letter.size) Y) (VEv.int .i64 1) (by first | exact hw _ (List.mem_of_getElem? hx1) | (exact Qcg (by omega)))) (fD (OF.pickF (VEv.tmpB Y (nz fhg34_7)) (tv (tB (!(decide (x1.Letter.size=1)))) Y)) Y Y (mD (tB (!(decide (x1.Letter.size=1)))) Y Y ?_)))))
  refine gn (x1.Letter.size=1) (fun fhg40_8=> ?_) fun fhg40_8=> ?_
  ·refine oD Y Y (ny fhg40_8) Y ?_
   refine oD Y Y (ny fhg40_8) Y (oD Y Y (ny fhg40_8) Y (oD Y Y (ny fhg40_8) Y (fD (OF.pickT (VEv.tmpB Y (ny fhg40_8)) (VEv.bool true)) Y Y (mD (tB true) Y Y (VRunD.off Y (VWant.not (b:=true) Y Y Y) (VRunD.off Y (VWant.not (b:=true) Y Y Y) (VRunD.off Y (VWant.not (b:=true) Y Y Y) (VRunD.off Y (VWant.not (b:=true) Y Y Y) (fD (OF.pickT (tv (tB true) Y) (VEv.bool true)) Y Y (mD (tB true) Y Y (VRunD.off Y (VWant.not (b:=true) Y Y Y) ?_)))))))))))
   refine VRunD.off Y (VWant.not (b:=true) Y Y Y) (VRunD.off Y (VWant.not (b:=true) Y Y Y) (VRunD.off Y (VWant.not (b:=true) Y Y Y) (fD (OF.pickT (tv (tB true) Y) (VEv.bool true)) Y Y (VRunD.nil (tn (ct Y (sr (fO (OF.assign (VEv.bool false)) (nt (rt (vinB.r ?_)))))))))))
   refine tr (tr (vinB.r (tr (vb (b':=false) Y ?_))))
   first | (symm;rw [decide_eq_false_iff_not];rintro ⟨h2,_⟩;omega) | (symm;rw [decide_eq_true_eq];exact ⟨by omega,QS hI' fhc1⟩) | (symm;rw [decide_eq_false_iff_not];rintro ⟨_,h2⟩;obtain ⟨y,hy,h3,h4,h5,h6,h7,h8⟩:=h2 i fhc1;obtain rfl:=Qk hx1 hy;first | omega | contradiction | (obtain ⟨z,hz,h9⟩:=h8 (by omega);obtain rfl:=Qk hx2 hz;omega) | (simp_all;done))
  refine VRunD.free Y (VWant.on Y Y (nz fhg40_8)) Y (OF.fieldAddrO (tv (T.op 0 0) Y) Zc) (VRunD.look Y (VWant.on Y Y (nz fhg40_8)) Y (OL.loadO1 (t:=(tS x1.Letter)) (tv (T.op 0 1) Y) Y Y st9) (VRunD.quiet (bi:= [26,24,22,20,21,23,18,16,14,15,17,12,8,6,4,5,3,7,10,9,11,1,0,2,13,19,25,27]) Y (VWant.on Y Y (nz fhg40_8)) Y Y Y bn (cS (vc (tv (tS x1.Letter) Y) vn) (Yd Y) (Yl (n+0) x1.Letter (by first | exact hw _ (List.mem_of_getElem? hx1) | assumption | omega)) Y Y) (VRunD.free Y (VWant.on Y Y (nz fhg40_8)) Y (QV (tv (tB (decide (Zm x1.Letter))) Y)) (fD (OF.pickF (VEv.tmpB Y (nz fhg40_8)) (tv (tB (!(decide (Zm x1.Letter)))) Y)) Y Y (mD (tB (!(decide (Zm x1.Letter)))) Y Y ?_)))))
  refine gn (Zm x1.Letter) (fun fhg46_9=> ?_) fun fhg46_9=> ?_
  ·refine oD Y Y (ny fhg46_9) Y ?_
   refine oD Y Y (ny fhg46_9) Y (oD Y Y (ny fhg46_9) Y (oD Y Y (ny fhg46_9) Y (fD (OF.pickT (VEv.tmpB Y (ny fhg46_9)) (VEv.bool true)) Y Y (mD (tB true) Y Y (VRunD.off Y (VWant.not (b:=true) Y Y Y) (VRunD.off Y (VWant.not (b:=true) Y Y Y) (VRunD.off Y (VWant.not (b:=true) Y Y Y) (VRunD.off Y (VWant.not (b:=true) Y Y Y) (fD (OF.pickT (tv (tB true) Y) (VEv.bool true)) Y Y (VRunD.nil (tn ?_)))))))))))
   refine ct Y (sr (fO (OF.assign (VEv.bool false)) (nt (rt (vinB.r (tr (tr (vinB.r (tr (vb (b':=false) Y ?_))))))))))
   first | (symm;rw [decide_eq_false_iff_not];rintro ⟨h2,_⟩;omega) | (symm;rw [decide_eq_true_eq];exact ⟨by omega,QS hI' fhc1⟩) | (symm;rw [decide_eq_false_iff_not];rintro ⟨_,h2⟩;obtain ⟨y,hy,h3,h4,h5,h6,h7,h8⟩:=h2 i fhc1;obtain rfl:=Qk hx1 hy;first | omega | contradiction | (obtain ⟨z,hz,h9⟩:=h8 (by omega);obtain rfl:=Qk hx2 hz;omega) | (simp_all;done))
  refine VRunD.free Y (VWant.on Y Y (nz fhg46_9)) Y (OF.fieldAddrO (tv (T.op 0 0) Y) Zb) (VRunD.look Y (VWant.on Y Y (nz fhg46_9)) Y (OL.loadO1 (t:=(tI x1.Tick)) (tv (T.op 0 2) Y) Y Y ZC) (VRunD.quiet (bi:= [32,30,28,26,27,29,24,22,20,21,23,18,16,14,15,17,12,8,6,4,5,3,7,10,9,11,1,0,2,13,19,25,31,33]) Y (VWant.on Y Y (nz fhg46_9)) Y Y Y bn (cS (vc (tv (tI x1.Tick) Y) (vc (VEv.int .i64 0) (vc (VEv.int .i64 1000) vn))) (Yd Y) (QZ (n+1) x1.Tick 0 1000) Y Y) (VRunD.free Y (VWant.on Y Y (nz fhg46_9)) Y (QV (tv (tB (decide (0≤x1.Tick∧x1.Tick≤1000))) Y)) (fD (OF.pickF (VEv.tmpB Y (nz fhg46_9)) (tv (tB (!(decide (0≤x1.Tick∧x1.Tick≤1000)))) Y)) Y Y (mD (tB (!(decide (0≤x1.Tick∧x1.Tick≤1000)))) Y Y ?_)))))
  refine gn (0≤x1.Tick∧x1.Tick≤1000) (fun fhg52_10=> ?_) fun fhg52_10=> ?_
  ·refine oD Y Y (ny fhg52_10) Y ?_
   refine oD Y Y (ny fhg52_10) Y (oD Y Y (ny fhg52_10) Y (oD Y Y (ny fhg52_10) Y (fD (OF.pickT (VEv.tmpB Y (ny fhg52_10)) (VEv.bool true)) Y Y (VRunD.nil (tn (ct Y (sr (fO (OF.assign (VEv.bool false)) (nt (rt (vinB.r ?_)))))))))))
   refine tr (tr (vinB.r (tr (vb (b':=false) Y ?_))))
   first | (symm;rw [decide_eq_false_iff_not];rintro ⟨h2,_⟩;omega) | (symm;rw [decide_eq_true_eq];exact ⟨by omega,QS hI' fhc1⟩) | (symm;rw [decide_eq_false_iff_not];rintro ⟨_,h2⟩;obtain ⟨y,hy,h3,h4,h5,h6,h7,h8⟩:=h2 i fhc1;obtain rfl:=Qk hx1 hy;first | omega | contradiction | (obtain ⟨z,hz,h9⟩:=h8 (by omega);obtain rfl:=Qk hx2 hz;omega) | (simp_all;done))
  refine VRunD.free Y (VWant.on Y Y (nz fhg52_10)) Y (OF.fieldAddrO (tv (T.op 0 0) Y) Ze) (VRunD.look Y (VWant.on Y Y (nz fhg52_10)) Y (OL.loadO1 (t:=(tI x1.Who)) (tv (T.op 0 3) Y) Y Y ZC) (VRunD.quiet (bi:= [38,36,34,32,33,35,30,28,26,27,29,24,22,20,21,23,18,16,14,15,17,12,8,6,4,5,3,7,10,9,11,1,0,2,13,19,25,31,37,39]) Y (VWant.on Y Y (nz fhg52_10)) Y Y Y bn (cS (vc (tv (tI x1.Who) Y) (vc (VEv.int .i64 1) (vc (VEv.int .i64 9) vn))) (Yd Y) (QZ (n+1) x1.Who 1 9) Y Y) (VRunD.free Y (VWant.on Y Y (nz fhg52_10)) Y (QV (tv (tB (decide (1≤x1.Who∧x1.Who≤9))) Y)) (fD (OF.pickF (VEv.tmpB Y (nz fhg52_10)) (tv (tB (!(decide (1≤x1.Who∧x1.Who≤9)))) Y)) Y Y (VRunD.nil (tn ?_))))))
  refine cn (1≤x1.Who∧x1.Who≤9) Y (fun fhc2=> ?_) fun fhc2=> ?_
  ·refine sr ?_
   refine fO (OF.assign (VEv.bool false)) (nt (rt (vinB.r (tr (tr (vinB.r (tr (vb (b':=false) Y ?_))))))))
   first | (symm;rw [decide_eq_false_iff_not];rintro ⟨h2,_⟩;omega) | (symm;rw [decide_eq_true_eq];exact ⟨by omega,QS hI' fhc1⟩) | (symm;rw [decide_eq_false_iff_not];rintro ⟨_,h2⟩;obtain ⟨y,hy,h3,h4,h5,h6,h7,h8⟩:=h2 i fhc1;obtain rfl:=Qk hx1 hy;first | omega | contradiction | (obtain ⟨z,hz,h9⟩:=h8 (by omega);obtain rfl:=Qk hx2 hz;omega) | (simp_all;done))
  refine sk (vinB.n (tn (VRun.region (fO (ZV (tv (tN i) Y) (VEv.int .i64 1) (by first | exact hw _ (List.mem_of_getElem? hx1) | omega)) (mO (tN (i+1)) Y (VRunO.nil (tn ?_)))))))
  refine ⟨(i+1:Nat),?_,?_,Wk.mk (fun k=>k) ?_ ?_ ?_⟩
  ·refine Z4 hI0 fhc1 ⟨x1,hx1,by omega,by omega,by assumption,by omega,by omega,fun h0=> ?_⟩
   first | (exact absurd h0 (by omega)) | (exact ⟨x2,hx2,by omega⟩)
  ·first | omega | (simp only [];omega) | (show _<_;omega) | (simp;omega)
  ·exact (b2 (b2 (b2 (b2 bn))))
  ·exact bn
  ·exact nd Y
 refine VRun.exit (vthn.e (vthn.e (vinB.e (tn (sr (fO (OF.assign (VEv.bool true)) (nt (rt (vb (b':=true) Y ?_)))))))))
 first | (symm;rw [decide_eq_false_iff_not];rintro ⟨h2,_⟩;omega) | (symm;rw [decide_eq_true_eq];exact ⟨by omega,QS hI' fhc1⟩) | (symm;rw [decide_eq_false_iff_not];rintro ⟨_,h2⟩;obtain ⟨y,hy,h3,h4,h5,h6,h7,h8⟩:=h2 i fhc1;obtain rfl:=Qk hx1 hy;first | omega | contradiction | (obtain ⟨z,hz,h9⟩:=h8 (by omega);obtain rfl:=Qk hx2 hz;omega) | (simp_all;done))
noncomputable section
def Qah : Nat→Int→ByteArray→ByteArray
 | 0,_,acc=>acc
 | f+1,k,acc=>if 0<k then Qah f (k.tdiv 10) (YD [IntKind.u8.wrap (48+k.tmod 10)]++acc) else acc
def Yy (k:Int):ByteArray:=if k≤0 then ⟨#[109,48]⟩ else ⟨#[109]⟩++Qah k.toNat k ⟨#[]⟩
theorem Qcx {f:Nat} {k:Int} {acc:ByteArray} (hk:0<k) (hf:k.toNat≤f):0≤k.tdiv 10∧(k.tdiv 10).toNat≤f - 1∧Qah f k acc=Qah (f - 1) (k.tdiv 10) (YD [IntKind.u8.wrap (48+k.tmod 10)]++acc):=by
 have h1:k.tdiv 10=k / 10:=Int.tdiv_eq_ediv_of_nonneg (by omega)
 cases f with
 | zero=>omega
 | succ f =>
  refine ⟨by omega,by omega,?_⟩
  simp only [Qah,if_pos hk]
  rfl
theorem Qdi {f:Nat} {k:Int} {acc:ByteArray} (hk:¬ 0<k):Qah f k acc=acc:=by
 cases f with
 | zero=>rfl
 | succ f=>simp only [Qah,if_neg hk]
theorem Qdn (n:Int):(YD [n]).size=1:=rfl
theorem QdT {k:Int} (h:0<k):0≤k.tmod 10∧k.tmod 10<10∧0≤k.tdiv 10∧k.tdiv 10≤k:=by
 rw [Int.tmod_eq_emod_of_nonneg (by omega),Int.tdiv_eq_ediv_of_nonneg (by omega)]
 omega
end
theorem YA (n:Nat) (q:Int) (hq:q≤QT):Pure (QK Try.prog (n+1)) 35 [(tI q)] (tS (Yy q)):=by
 refine Pure.intro (rs:= [ResultVar.tmp 2]) Try.func35 Y Y Y (E0:= [(0,(tI q))]) Y ?_
 obtain ⟨hlim,hmx,hmax⟩:=Z3
 refine sr (fO (OF.assign (VEv.str (⟨#[]⟩:ByteArray))) (nt (sq (sr (mO (tI q) Y (fO (xle (tv (tI q) Y) (VEv.int .i64 0)) (nt ?_)))))))
 refine cd (q≤0) Y (fun fhc0=> ?_) fun fhc0=> ?_
 ·refine sr ?_
  refine fO (OF.assign (VEv.str (⟨#[109,48]⟩:ByteArray))) (nt (rt (tr ?_)))
  refine vfin.eq (r':=(tS (⟨#[109,48]⟩:ByteArray))) ?_ (vfin.r (VRes.tmp (t:=(tS (⟨#[109,48]⟩:ByteArray))) Y VRes.nil) (Give.str _))
  refine congrArg T.str ?_
  exact (if_pos fhc0).symm
 refine sk (tn (sr (fO (OF.assign (VEv.str (⟨#[]⟩:ByteArray))) (nt (sq (VRun.block ?_))))))
 refine VRun.loop (A:=Int×Nat×ByteArray) (fun s_=> [(0,(tI s_.1)),(2,(tS (⟨#[]⟩:ByteArray))),(3,(tS s_.2.2))]) (fun s_=>JU []) 0 (fun s_=>0≤s_.1∧s_.1.toNat≤s_.2.1∧s_.2.2.size+s_.2.1≤q.toNat∧Qah q.toNat q ⟨#[]⟩=Qah s_.2.1 s_.1 s_.2.2) (fun s_=>s_.2.1) ((q,q.toNat,⟨#[]⟩):Int×Nat×ByteArray) ?_ (Wk.mk (fun k=>k) ?_ ?_ ?_) ?_
 ·exact ⟨by omega,Nat.le_refl _,by show 0+q.toNat≤q.toNat;omega,rfl⟩
 ·exact (b2 (b2 (bc ⟨(congrArg T.str (show (⟨#[]⟩:ByteArray)=⟨#[]⟩ from (by rfl))),rfl⟩ bn)))
 ·exact bn
 ·exact nd Y
 rintro ⟨k,f,acc⟩ (hI':0≤k∧k.toNat≤f∧acc.size+f≤q.toNat∧Qah q.toNat q ⟨#[]⟩=Qah f k acc)
 show VRun _ _ _ [(0,(tI k)),(2,(tS (⟨#[]⟩:ByteArray))),(3,(tS acc))] (JU []) 0 _
 have hI1:=hI'.1
 have hI2:=hI'.2.1
 have hI3:=hI'.2.2.1
 have hI4:=hI'.2.2.2
 refine sq (sr (mO (tI k) Y (fO (xgt (tv (tI k) Y) (VEv.int .i64 0)) (nt ?_))))
 refine cd (0<k) Y (fun fhc1=> ?_) fun fhc1=> ?_
 ·obtain ⟨m1,m2,m3,m4⟩:=QdT fhc1
  refine sk (tn (VRun.block (sr (mO (tI k) Y (fO (B.rem (n:=(k.tmod 10)) (tv (tI k) Y) (VEv.int .i64 10) (by omega) (by rfl)) (fO (B.add (n:=(48+(k.tmod 10))) (VEv.int .i64 48) (tv (tI (k.tmod 10)) Y) (by (rw [ZT (by omega)];done))) (fO (OF.convI (tv (tI (48+(k.tmod 10))) Y) (k0:= .i64) U3 U5) (kO (OM.buildSlice (l:= [(T.int .u8 (IntKind.u8.wrap (48+(k.tmod 10))))]) (VEvp.cons (tv (T.int .u8 (IntKind.u8.wrap (48+(k.tmod 10)))) Y) VEvp.nil) Y (by decide) (bc (nofun) bn) (bc ((bc (Y) bn)) bn) (bc (Y) bn) U67 zo5 (by kernel_rfl) Y (by rw [sz5];decide) sz5 (Nat.le_of_ble_eq_true Y)) (lO (B.convBS (l:= [IntKind.u8.wrap (48+(k.tmod 10))]) (tv (T.os 1 0 0 1) Y) Y Y U67 U5 U9) (mO (tS acc) Y (fO (B.sadd (tv (tS (YD [IntKind.u8.wrap (48+(k.tmod 10))])) Y) (tv (tS acc) Y) (by (simp only [Qdn];omega))) ?_)))))))))))
  refine aO (tS ((YD [IntKind.u8.wrap (48+(k.tmod 10))])++acc)) Y (nt (VRun.region (mO (tI k) Y (fO (B.quo (n:=(k.tdiv 10)) (tv (tI k) Y) (VEv.int .i64 10) (by omega) (by (rw [ZT (by omega)];done))) (aO (tI (k.tdiv 10)) Y (VRunO.nil (vinB.n (tn ?_))))))))
  obtain ⟨n1,n2,n3⟩:=Qcx (acc:=acc) fhc1 hI2
  refine ⟨((k.tdiv 10,f - 1,YD [IntKind.u8.wrap (48+k.tmod 10)]++acc):Int×Nat×ByteArray),?_,?_,Wk.mk (fun k=>k) ?_ ?_ ?_⟩
  ·exact ⟨n1,n2,by show (YD _++acc).size+(f - 1)≤q.toNat;rw [ByteArray.size_append,Qdn];omega,hI4.trans n3⟩
  ·(simp only [];omega)
  ·exact (b2 (b2 (bc ⟨(congrArg T.str (show ((YD [IntKind.u8.wrap (48+(k.tmod 10))])++acc)=(YD [IntKind.u8.wrap (48+k.tmod 10)]++acc) from (by rfl))),rfl⟩ bn)))
  ·exact bn
  ·exact nd Y
 refine VRun.exit (vthn.e (vthn.e (vinB.e (tn (sr (mO (tS acc) Y (fO (B.sadd (VEv.str (⟨#[109]⟩:ByteArray)) (tv (tS acc) Y) (by (rw [show (⟨#[109]⟩:ByteArray).size=1 from rfl];omega))) (aO (tS ((⟨#[109]⟩:ByteArray)++acc)) Y (nt (rt ?_))))))))))
 refine vfin.eq (r':=(tS ((⟨#[109]⟩:ByteArray)++acc))) ?_ (vfin.r (VRes.tmp (t:=(tS ((⟨#[109]⟩:ByteArray)++acc))) Y VRes.nil) (Give.str _))
 refine congrArg T.str ?_
 unfold Yy
 rw [if_neg fhc0,hI4,Qdi fhc1]
noncomputable section
def QB (k:Nat):D.Note:=(D.Note.mk ((k:Nat):Int) (Yy ((k+1:Nat):Int)) ((k+2:Nat):Int) ((k+3:Nat):Int))
end
theorem Yn (n:Nat) (a:List D.Note) (k:Nat) (hk:k+4*a.length≤QT):Mut (QK Try.prog (n+2)) 13 4 (a.map (Qa true)) [(tN k)] (some ((k+4*a.length:Nat):Int)) ((YY QB 4 k a.length).map (Qa true)):=by
 refine Mut.intro (rt:=4) Try.func13 Y Y Y (by kernel_rfl) (Y2 (fun _=>rfl) _) (Y2 (fun _=>rfl) _) (E0:= [(1,(tN k))]) Y ?_
 obtain ⟨hlim,hmx,hmax⟩:=Z3
 refine sr (fO (OF.assign (VEv.int .i64 0)) (nt (sq (sr (fO (OF.assign (VEv.int .i64 0)) (nt (VRun.block ?_)))))))
 have he1:a=YF QB 4 k a 0:=by first | rfl | (refine JQ ?_;omega) | (simp only [List.set_set];refine JQ ?_;omega) | (simp;done) | omega
 refine VRun.loop (A:=Nat) (fun s_=> [(0,(T.os 4 0 0 (((YF QB 4 k a s_).map (Qa true)).length))),(1,(tN (k+4*s_))),(4,(tN 0)),(5,(tN s_))]) (fun s_=>JU [(0,(Obj.rows 4 ((YF QB 4 k a s_).map (Qa true))))]) 1 (fun s_=>s_≤a.length) (fun s_=>a.length - s_) (0:Nat) ?_ (Wk.mk (fun k=>k) ?_ ?_ ?_) ?_
 ·first | trivial | (simp;done) | omega | (constructor<;>simp)
 ·exact (bc ⟨(congrArg (fun l_=>T.os 4 0 0 (List.map (Qa true) l_).length) he1),rfl⟩ (bc ⟨(congrArg (T.int .i64) (show ((k:Nat):Int)=((k+4*0:Nat):Int) from (by first | rfl | omega | (simp;done) | (push_cast;omega)))),rfl⟩ (b2 (b2 bn))))
 ·exact (bc ⟨(congrArg (fun l_=>some (Obj.rows 4 (List.map (Qa true) l_))) he1),(lb Y),rfl⟩ bn)
 ·exact nd Y
 rintro i (hI':i≤a.length)
 show VRun _ _ _ [(0,(T.os 4 0 0 (((YF QB 4 k a i).map (Qa true)).length))),(1,(tN (k+4*i))),(4,(tN 0)),(5,(tN i))] (JU [(0,(Obj.rows 4 ((YF QB 4 k a i).map (Qa true))))]) 1 _
 have hml:=QaL (f:=QB) (w:=4) (k:=k) hI'
 refine sq (sr (mO (tN i) Y (mO (T.os 4 0 0 (((YF QB 4 k a i).map (Qa true)).length)) Y (lO (B.lenO (m:=(YF QB 4 k a i).length) (tv (T.os 4 0 0 (((YF QB 4 k a i).map (Qa true)).length)) Y) QD (List.length_map ..)) (fO (Qai (tv (tN i) Y) (tv (tN ((YF QB 4 k a i).length)) Y)) (nt ?_))))))
 refine cd (i<(YF QB 4 k a i).length) Y (fun fhc0=> ?_) fun fhc0=> ?_
 ·refine sk ?_
  refine tn (sq (VRun.block (sr (mO (T.os 4 0 0 (((YF QB 4 k a i).map (Qa true)).length)) Y (mO (tN i) Y (mO (tN (k+4*i)) Y ?_))))))
  obtain ⟨x1,hx1⟩:∃x,(YF QB 4 k a i)[i]? =some x:=⟨_,List.getElem?_eq_getElem (by first | omega | (simp only [List.length_set];omega) | omega)⟩
  refine fO (B.indexAddrO (i:=i) (tv (T.os 4 0 0 (((YF QB 4 k a i).map (Qa true)).length)) Y) (tv (tN i) Y) Y (by first | omega | (simp only [List.length_set];omega) | omega | (simp only [List.length_map];omega) | (simp only [List.length_map,List.length_append,List.length_cons,List.length_nil,List.length_replicate,List.length_set,List.length_drop,List.length_take,QT] at *;omega)) QD Qf Q2) (fO (OF.fieldAddrP (tv (T.orp 4 0 i 0) Y) QW) (cO (B.storeP (us:= [(tN (k+4*i))]) (rows':=(((YF QB 4 k a i).set i (D.Note.mk ((k+4*i:Nat):Int) x1.Letter x1.Tick x1.Who)).map (Qa true))) (row:=(Qa true x1)) (tv (T.orp 4 0 i 0) Y) (tv (tN (k+4*i)) Y) nofun Y (QL _ hx1) Y (lb Y) if3 sz3 (bc Y bn) (by intro r hr t ht;obtain ⟨x,_,rfl⟩:=List.mem_map.1 hr;rw [Y4] at ht;exact ZA (okeNote.pl _ t ht)) (ZX Y)) (nt (sr (mO (tN (k+4*i)) Y (fO (ZV (tv (tN (k+4*i)) Y) (VEv.int .i64 1) (by first | omega | (simp only [List.length_set];omega) | omega)) (aO (tN (k+4*i+1)) Y (nt (sr (mO (T.os 4 0 0 (((YF QB 4 k a i).map (Qa true)).length)) Y (mO (tN i) Y ?_)))))))))))
  refine mO (tN (k+4*i+1)) Y (cO (cS (vc (tv (tN (k+4*i+1)) Y) vn) (Yd Y) (YA (n+0) (((k+4*i+1):Nat):Int) (by first | omega | (simp only [List.length_set];omega) | assumption | omega)) Y Y) (fO (B.indexAddrO (i:=i) (tv (T.os 4 0 0 (((YF QB 4 k a i).map (Qa true)).length)) Y) (tv (tN i) Y) Y (by first | omega | (simp only [List.length_set];omega) | omega | (simp only [List.length_map];omega) | (simp only [List.length_map,List.length_append,List.length_cons,List.length_nil,List.length_replicate,List.length_set,List.length_drop,List.length_take,QT] at *;omega)) QD Qf Q2) (fO (OF.fieldAddrP (tv (T.orp 4 0 i 0) Y) Zc) (cO (B.storeP (us:= [(tS (Yy (((k+4*i+1):Nat):Int)))]) (rows':=((((YF QB 4 k a i).set i (D.Note.mk ((k+4*i:Nat):Int) x1.Letter x1.Tick x1.Who)).set i (D.Note.mk ((k+4*i:Nat):Int) (Yy (((k+4*i+1):Nat):Int)) x1.Tick x1.Who)).map (Qa true))) (row:=(Qa true (D.Note.mk ((k+4*i:Nat):Int) x1.Letter x1.Tick x1.Who))) (tv (T.orp 4 0 i 1) Y) (tv (tS (Yy (((k+4*i+1):Nat):Int))) Y) nofun Y (QL _ (Qb0 (by first | omega | (simp only [List.length_set];omega) | omega | (simp only [List.length_map];omega) | (simp only [List.length_map,List.length_append,List.length_cons,List.length_nil,List.length_replicate,List.length_set,List.length_drop,List.length_take,QT] at *;omega)))) Y (lb Y) if9 sz9 (bc Y bn) (by intro r hr t ht;obtain ⟨x,_,rfl⟩:=List.mem_map.1 hr;rw [Y4] at ht;exact ZA (okeNote.pl _ t ht)) (ZX Y)) (nt (sr (mO (tN (k+4*i+1)) Y (fO (ZV (tv (tN (k+4*i+1)) Y) (VEv.int .i64 1) (by first | omega | (simp only [List.length_set];omega) | omega)) (aO (tN ((k+4*i+1)+1)) Y (nt (sr ?_)))))))))))
  refine mO (T.os 4 0 0 (((YF QB 4 k a i).map (Qa true)).length)) Y (mO (tN i) Y (mO (tN ((k+4*i+1)+1)) Y (fO (B.indexAddrO (i:=i) (tv (T.os 4 0 0 (((YF QB 4 k a i).map (Qa true)).length)) Y) (tv (tN i) Y) Y (by first | omega | (simp only [List.length_set];omega) | omega | (simp only [List.length_map];omega) | (simp only [List.length_map,List.length_append,List.length_cons,List.length_nil,List.length_replicate,List.length_set,List.length_drop,List.length_take,QT] at *;omega)) QD Qf Q2) (fO (OF.fieldAddrP (tv (T.orp 4 0 i 0) Y) Zb) (cO (B.storeP (us:= [(tN ((k+4*i+1)+1))]) (rows':=(((((YF QB 4 k a i).set i (D.Note.mk ((k+4*i:Nat):Int) x1.Letter x1.Tick x1.Who)).set i (D.Note.mk ((k+4*i:Nat):Int) (Yy (((k+4*i+1):Nat):Int)) x1.Tick x1.Who)).set i (D.Note.mk ((k+4*i:Nat):Int) (Yy (((k+4*i+1):Nat):Int)) ((((k+4*i+1)+1):Nat):Int) x1.Who)).map (Qa true))) (row:=(Qa true (D.Note.mk ((k+4*i:Nat):Int) (Yy (((k+4*i+1):Nat):Int)) x1.Tick x1.Who))) (tv (T.orp 4 0 i 2) Y) (tv (tN ((k+4*i+1)+1)) Y) nofun Y (QL _ (Qb0 (by first | omega | (simp only [List.length_set];omega) | omega | (simp only [List.length_map];omega) | (simp only [List.length_map,List.length_append,List.length_cons,List.length_nil,List.length_replicate,List.length_set,List.length_drop,List.length_take,QT] at *;omega)))) Y (lb Y) if3 sz3 (bc Y bn) (by intro r hr t ht;obtain ⟨x,_,rfl⟩:=List.mem_map.1 hr;rw [Y4] at ht;exact ZA (okeNote.pl _ t ht)) (ZX Y)) (nt (sr (mO (tN ((k+4*i+1)+1)) Y (fO (ZV (tv (tN ((k+4*i+1)+1)) Y) (VEv.int .i64 1) (by first | omega | (simp only [List.length_set];omega) | omega)) (aO (tN (((k+4*i+1)+1)+1)) Y (nt ?_)))))))))))
  refine sr (mO (T.os 4 0 0 (((YF QB 4 k a i).map (Qa true)).length)) Y (mO (tN i) Y (mO (tN (((k+4*i+1)+1)+1)) Y (fO (B.indexAddrO (i:=i) (tv (T.os 4 0 0 (((YF QB 4 k a i).map (Qa true)).length)) Y) (tv (tN i) Y) Y (by first | omega | (simp only [List.length_set];omega) | omega | (simp only [List.length_map];omega) | (simp only [List.length_map,List.length_append,List.length_cons,List.length_nil,List.length_replicate,List.length_set,List.length_drop,List.length_take,QT] at *;omega)) QD Qf Q2) (fO (OF.fieldAddrP (tv (T.orp 4 0 i 0) Y) Ze) (cO (B.storeP (us:= [(tN (((k+4*i+1)+1)+1))]) (rows':=((((((YF QB 4 k a i).set i (D.Note.mk ((k+4*i:Nat):Int) x1.Letter x1.Tick x1.Who)).set i (D.Note.mk ((k+4*i:Nat):Int) (Yy (((k+4*i+1):Nat):Int)) x1.Tick x1.Who)).set i (D.Note.mk ((k+4*i:Nat):Int) (Yy (((k+4*i+1):Nat):Int)) ((((k+4*i+1)+1):Nat):Int) x1.Who)).set i (D.Note.mk ((k+4*i:Nat):Int) (Yy (((k+4*i+1):Nat):Int)) ((((k+4*i+1)+1):Nat):Int) (((((k+4*i+1)+1)+1):Nat):Int))).map (Qa true))) (row:=(Qa true (D.Note.mk ((k+4*i:Nat):Int) (Yy (((k+4*i+1):Nat):Int)) ((((k+4*i+1)+1):Nat):Int) x1.Who))) (tv (T.orp 4 0 i 3) Y) (tv (tN (((k+4*i+1)+1)+1)) Y) nofun Y (QL _ (Qb0 (by first | omega | (simp only [List.length_set];omega) | omega | (simp only [List.length_map];omega) | (simp only [List.length_map,List.length_append,List.length_cons,List.length_nil,List.length_replicate,List.length_set,List.length_drop,List.length_take,QT] at *;omega)))) Y (lb Y) if3 sz3 (bc Y bn) (by intro r hr t ht;obtain ⟨x,_,rfl⟩:=List.mem_map.1 hr;rw [Y4] at ht;exact ZA (okeNote.pl _ t ht)) (ZX Y)) (nt (VRun.region (mO (tN (((k+4*i+1)+1)+1)) Y (fO (ZV (tv (tN (((k+4*i+1)+1)+1)) Y) (VEv.int .i64 1) (by first | omega | (simp only [List.length_set];omega) | omega)) (aO (tN ((((k+4*i+1)+1)+1)+1)) Y ?_)))))))))))
  refine VRunO.nil (vinB.n (tn (VRun.region (mO (tN i) Y (fO (ZV (tv (tN i) Y) (VEv.int .i64 1) (by first | omega | (simp only [List.length_set];omega) | omega)) (aO (tN (i+1)) Y (VRunO.nil (tn ?_))))))))
  have hi1:i+1≤a.length:=by omega
  have he2:(((((YF QB 4 k a i).set i (D.Note.mk ((k+4*i:Nat):Int) x1.Letter x1.Tick x1.Who)).set i (D.Note.mk ((k+4*i:Nat):Int) (Yy (((k+4*i+1):Nat):Int)) x1.Tick x1.Who)).set i (D.Note.mk ((k+4*i:Nat):Int) (Yy (((k+4*i+1):Nat):Int)) ((((k+4*i+1)+1):Nat):Int) x1.Who)).set i (D.Note.mk ((k+4*i:Nat):Int) (Yy (((k+4*i+1):Nat):Int)) ((((k+4*i+1)+1):Nat):Int) (((((k+4*i+1)+1)+1):Nat):Int)))=YF QB 4 k a (i+1):=by first | rfl | (refine JQ ?_;omega) | (simp only [List.set_set];refine JQ ?_;omega) | (simp;done) | omega
  refine ⟨(i+1:Nat),?_,?_,Wk.mk (fun k=>k) ?_ ?_ ?_⟩
  ·first | trivial | omega | (simp;done) | exact ⟨by omega,hI'.2⟩
  ·first | omega | (simp only [];omega) | (show _<_;omega) | (simp;omega)
  ·exact (bc ⟨(congrArg (fun n_=>T.os 4 0 0 n_) (show ((YF QB 4 k a i).map (Qa true)).length=((YF QB 4 k a (i+1)).map (Qa true)).length from (by first | rfl | (rw [List.length_map,List.length_map,QaL hI',QaL hi1]) | (simp only [List.length_map];omega) | (simp only [List.length_map,List.length_set,List.length_append,List.length_take,List.length_replicate,List.length_cons,List.length_nil];omega)))),rfl⟩ (bc ⟨(congrArg (T.int .i64) (show ((((((k+4*i+1)+1)+1)+1):Nat):Int)=((k+4*(i+1):Nat):Int) from (by first | rfl | omega | (simp;done) | (push_cast;omega)))),rfl⟩ (b2 (b2 bn))))
  ·exact (bc ⟨(congrArg (fun l_=>some (Obj.rows 4 (List.map (Qa true) l_))) he2),(lb Y),rfl⟩ bn)
  ·exact nd Y
 refine VRun.exit (vthn.e (vthn.e (vinB.e (tn (sr (mO (tN (k+4*i)) Y (aO (tN (k+4*i)) Y (nt (rt ?_)))))))))
 refine vmut.r (r0:=((k+4*i:Nat):Int)) (rows:=((YF QB 4 k a i).map (Qa true))) Y Y Y ?_ ?_ Y
 ·first | rfl | (push_cast;omega) | (have:i=a.length:=(by omega);subst this;rfl)
 ·show List.map _ (YF QB 4 k a i)=List.map _ (YY QB 4 k a.length)
  refine congrArg (List.map _) ?_
  exact Qdx hI' (by omega)
theorem Yo (n:Nat) (a:List D.Note) (k:Nat) (hh:a=YY QB 4 k a.length) (hk:k+4*a.length≤QT):Pure (QK Try.prog (n+2)) 14 [(rd 4 Qa a),(tN k)] (tN (k+4*a.length)):=by
 refine Pure.intro (rs:= [ResultVar.tmp 4]) Try.func14 Y Y Y (E0:= [(0,(rd 4 Qa a)),(1,(tN k))]) Y ?_
 obtain ⟨hlim,hmx,hmax⟩:=Z3
 refine sr (fO (OF.assign (VEv.int .i64 0)) (nt (sq (sr (fO (OF.assign (VEv.int .i64 0)) (nt (VRun.block ?_)))))))
 refine VRun.loop (A:=Nat) (fun s_=> [(0,(rd 4 Qa a)),(1,(tN (k+4*s_))),(5,(tN s_))]) (fun s_=>JU []) 0 (fun s_=>s_≤a.length) (fun s_=>a.length - s_) (0:Nat) ?_ (Wk.mk (fun k=>k) ?_ ?_ ?_) ?_
 ·first | trivial | (simp;done) | omega | (constructor<;>simp)
 ·exact (b2 (bc ⟨(congrArg (T.int .i64) (show ((k:Nat):Int)=((k+4*0:Nat):Int) from (by first | rfl | omega | (simp;done) | (push_cast;omega)))),rfl⟩ (b2 bn)))
 ·exact bn
 ·exact nd Y
 rintro i (hI':i≤a.length)
 show VRun _ _ _ [(0,(rd 4 Qa a)),(1,(tN (k+4*i))),(5,(tN i))] (JU []) 0 _
 refine sq (sr (mO (tN i) Y (mO (rd 4 Qa a) Y (lO (B.lenR (m:=a.length) (tv (rd 4 Qa a) Y) QD (List.length_map ..)) (fO (Qai (tv (tN i) Y) (tv (tN a.length) Y)) (nt ?_))))))
 refine cd (i<a.length) Y (fun fhc0=> ?_) fun fhc0=> ?_
 ·refine sk ?_
  refine tn (sq (VRun.block (sq (sr (mO (rd 4 Qa a) Y (mO (tN i) Y ?_))))))
  obtain ⟨x1,hx1⟩:∃x,a[i]? =some x:=⟨_,List.getElem?_eq_getElem (by omega)⟩
  refine fO (OF.indexAddrR (row:=(Qa false x1)) (i:=i) (tv (rd 4 Qa a) Y) (tv (tN i) Y) Y (QL _ hx1) QD Qf Q2) (lr (tI x1.Cell) Y (lb Y) QW Y ZC (mO (tN (k+4*i)) Y (fO (xne (tv (tI x1.Cell) Y) (tv (tN (k+4*i)) Y)) (nt ?_))))
  refine cn (x1.Cell=((k+4*i:Nat):Int)) Y (fun fhc1=> ?_) fun fhc1=> ?_
  ·exact absurd (congrArg (fun x=>x.Cell) (QaP hh hx1)) fhc1
  refine sk (tn (sr (mO (tN (k+4*i)) Y (fO (ZV (tv (tN (k+4*i)) Y) (VEv.int .i64 1) (by omega)) (aO (tN (k+4*i+1)) Y (nt (sq (sq (VRun.draw (B:= [[],[],[1,0],[0,1,2],[2,1,0,3],[],[5],[5,6,3,0,1,2,4]]) (by kernel_rfl) (by kernel_rfl) (mD (rd 4 Qa a) Y Y (mD (tN i) Y Y ?_)))))))))))
  refine fD (OF.indexAddrR (row:=(Qa false x1)) (i:=i) (tv (rd 4 Qa a) Y) (tv (tN i) Y) Y (QL _ hx1) QD Qf Q2) Y Y (fD (B.fieldAddrR (us:=((Qa false x1).drop 1)) (tv (T.rp (Qa false x1)) Y) (lb Y) Zc Y) Y Y (lD (OL.loadR1 (t:=(tS x1.Letter)) (tv (T.rp ((Qa false x1).drop 1)) Y) Y st9) Y Y (mD (tN (k+4*i+1)) Y Y (VRunD.quiet (bi:= [5]) Y VWant.always Y Y Y bn (cS (vc (tv (tN (k+4*i+1)) Y) vn) (Yd Y) (YA (n+0) (((k+4*i+1):Nat):Int) (by first | assumption | omega)) Y Y) (fD (B.sneq (c:=(!(decide (x1.Letter=Yy (((k+4*i+1):Nat):Int))))) (tv (tS x1.Letter) Y) (tv (tS (Yy (((k+4*i+1):Nat):Int))) Y) Y) Y Y (VRunD.nil (tn ?_)))))))
  refine cn (x1.Letter=Yy (((k+4*i+1):Nat):Int)) Y (fun fhc2=> ?_) fun fhc2=> ?_
  ·exact absurd (congrArg (fun x=>x.Letter) (QaP hh hx1)) fhc2
  refine sk (tn (sr (mO (tN (k+4*i+1)) Y (fO (ZV (tv (tN (k+4*i+1)) Y) (VEv.int .i64 1) (by omega)) (aO (tN ((k+4*i+1)+1)) Y (nt (sq (sr (mO (rd 4 Qa a) Y (mO (tN i) Y (fO (OF.indexAddrR (row:=(Qa false x1)) (i:=i) (tv (rd 4 Qa a) Y) (tv (tN i) Y) Y (QL _ hx1) QD Qf Q2) ?_)))))))))))
  refine lr (tI x1.Tick) Y (lb Y) Zb Y ZC (mO (tN ((k+4*i+1)+1)) Y (fO (xne (tv (tI x1.Tick) Y) (tv (tN ((k+4*i+1)+1)) Y)) (nt ?_)))
  refine cn (x1.Tick=((((k+4*i+1)+1):Nat):Int)) Y (fun fhc3=> ?_) fun fhc3=> ?_
  ·exact absurd (congrArg (fun x=>x.Tick) (QaP hh hx1)) fhc3
  refine sk (tn (sr (mO (tN ((k+4*i+1)+1)) Y (fO (ZV (tv (tN ((k+4*i+1)+1)) Y) (VEv.int .i64 1) (by omega)) (aO (tN (((k+4*i+1)+1)+1)) Y (nt (sq (sr (mO (rd 4 Qa a) Y (mO (tN i) Y (fO (OF.indexAddrR (row:=(Qa false x1)) (i:=i) (tv (rd 4 Qa a) Y) (tv (tN i) Y) Y (QL _ hx1) QD Qf Q2) ?_)))))))))))
  refine lr (tI x1.Who) Y (lb Y) Ze Y ZC (mO (tN (((k+4*i+1)+1)+1)) Y (fO (xne (tv (tI x1.Who) Y) (tv (tN (((k+4*i+1)+1)+1)) Y)) (nt ?_)))
  refine cn (x1.Who=(((((k+4*i+1)+1)+1):Nat):Int)) Y (fun fhc4=> ?_) fun fhc4=> ?_
  ·exact absurd (congrArg (fun x=>x.Who) (QaP hh hx1)) fhc4
  refine sk (tn (VRun.region (mO (tN (((k+4*i+1)+1)+1)) Y (fO (ZV (tv (tN (((k+4*i+1)+1)+1)) Y) (VEv.int .i64 1) (by omega)) (aO (tN ((((k+4*i+1)+1)+1)+1)) Y (VRunO.nil (vinB.n (tn (VRun.region (mO (tN i) Y (fO (ZV (tv (tN i) Y) (VEv.int .i64 1) (by omega)) ?_)))))))))))
  refine aO (tN (i+1)) Y (VRunO.nil (tn ?_))
  refine ⟨(i+1:Nat),?_,?_,Wk.mk (fun k=>k) ?_ ?_ ?_⟩
  ·first | trivial | omega | (simp;done) | exact ⟨by omega,hI'.2⟩
  ·first | omega | (simp only [];omega) | (show _<_;omega) | (simp;omega)
  ·exact (b2 (bc ⟨(congrArg (T.int .i64) (show ((((((k+4*i+1)+1)+1)+1):Nat):Int)=((k+4*(i+1):Nat):Int) from (by first | rfl | omega | (simp;done) | (push_cast;omega)))),rfl⟩ (b2 bn)))
  ·exact bn
  ·exact nd Y
 refine VRun.exit (vthn.e (vthn.e (vinB.e (tn (sr (mO (tN (k+4*i)) Y (aO (tN (k+4*i)) Y (nt (rt (vi (n':=((k+4*i:Nat):Int)) Y ?_))))))))))
 omega
theorem Qg (n:Nat) (a:List D.Note) (ha:a.length≤2*mx):Pure (QK Try.prog (n+1)) 30 [(rd 4 Qa a)] (T.sl true 4 (a.map (Qa true))):=by
 refine Pure.intro (rs:= [ResultVar.tmp 2]) Try.func30 Y Y Y (E0:= [(0,(rd 4 Qa a))]) Y ?_
 obtain ⟨hlim,hmx,hmax⟩:=Z3
 refine sr (fO (OF.assign VEv.nils) (nt (sq (sr (mO (rd 4 Qa a) Y ?_)))))
 refine VRunO.nilEq VWant.always (tv (rd 4 Qa a) Y) VEv.nils QD (fun bn1 hbn1=> ?_)
 refine nt ?_
 refine VRun.cond (tv (tB bn1) Y) (fun hc0=> ?_) (fun hc0=> ?_)
 ·have fhc0:bn1=true:=hc0
  have ebn1:=hbn1 hc0
  refine sr (fO (OF.assign VEv.nils) (nt (rt (tr ?_))))
  refine vfin.eq (r':=(T.sl true 4 [])) ?_ (vfin.r (VRes.tmp (t:=T.nils) Y VRes.nil) (Give.nils 4))
  refine congrArg (fun l_=>T.sl true 4 (List.map (Qa true) l_)) (a₁:= []) ?_
  exact (List.map_eq_nil_iff.1 ebn1).symm
 have fhc0:bn1=false:=hc0
 refine sk (tn (sr (kO (OM.slice0 QD QE (by kernel_rfl) Y (by rw [Qf];decide) Qf) (mO (rd 4 Qa a) Y (cO (B.append (rows:= []) (rows2:=(a.map (Qa false))) (rows3:=(a.map (Qa true))) (VDst.own (tv (T.os 4 0 0 0) Y) Y Y) (VSrc.read (tv (rd 4 Qa a) Y) QD (okeNote.okMap _ _)) nofun QD Qf (by decide) QE Y (of_decide_eq_true (by kernel_rfl)) (by first | omega | (simp only [List.length_map];omega) | (simp only [List.length_map,List.length_append,List.length_cons,List.length_nil,List.length_replicate,List.length_set,List.length_drop,List.length_take,QT] at *;omega)) (List.nil_append _)) (aO (T.os 4 1 0 ((a.map (Qa true)).length)) Y (nt (rt ?_))))))))
 refine vfin.eq (r':=(T.sl true 4 (a.map (Qa true)))) ?_ (vfin.r (VRes.tmp (t:=(T.os 4 1 0 ((a.map (Qa true)).length))) Y VRes.nil) (Give.os Y Y (okeNote.cleanMap _)))
 rfl
noncomputable section
def Qav (l:List D.Note) (x:D.Note):Nat:=(l.takeWhile (fun y=>decide (y.Cell<x.Cell))).length
def Jk (l:List D.Note) (x:D.Note):List D.Note:=match l[Qav l x]? with
 | some y=>if y.Cell=x.Cell then (if QP x y=true then l.take (Qav l x)++x::l.drop (Qav l x+1) else l) else l.take (Qav l x)++x::l.drop (Qav l x)
 | none=>l.take (Qav l x)++x::l.drop (Qav l x)
def Qi (l:List D.Note) (x:D.Note):List D.Note:=if Qb l∧Qb (Jk l x) then Jk l x else l
theorem Jn : ∀ {l:List D.Note} {x:D.Note} {k:Nat},k≤l.length→(∀j,j<k→∃y,l[j]? =some y∧y.Cell<x.Cell)→(∀y,l[k]? =some y→¬y.Cell<x.Cell)→Qav l x=k
 | [],x,k,hk,h,hs=>by
  have:k=0:=by simpa using hk
  subst this
  rfl
 | z::r,x,0,hk,h,hs=>by
  have:=hs z Y
  unfold Qav
  rw [List.takeWhile_cons,if_neg (by simpa using this)]
  rfl
 | z::r,x,k+1,hk,h,hs=>by
  obtain ⟨y,hy,h1⟩:=h 0 (by omega)
  obtain rfl:z=y:=by simpa using hy
  have ih:=Jn (l:=r) (x:=x) (k:=k) (by simpa using hk) (fun j hj=>by
   obtain ⟨y,hy,h2⟩:=h (j+1) (by omega)
   exact ⟨y,by simpa using hy,h2⟩) (fun y hy=>hs y (by simpa using hy))
  unfold Qav at ih ⊢
  rw [List.takeWhile_cons,if_pos (by simpa using h1),List.length_cons,ih]
def isLed (l:List D.Note) (x:D.Note) (k:Nat):Prop:=k≤l.length∧∀j,j<k→∃y,l[j]? =some y∧y.Cell<x.Cell
theorem isLed.next {l:List D.Note} {x y:D.Note} {k:Nat} (h:isLed l x k) (hy:l[k]? =some y) (hc:y.Cell<x.Cell):isLed l x (k+1):=by
 have:=(List.getElem?_eq_some_iff.1 hy).1
 refine ⟨this,fun j hj=> ?_⟩
 by_cases e:j=k
 ·subst e;exact ⟨y,hy,hc⟩
 ·exact h.2 j (by omega)
theorem Qq {l:List D.Note} {x:D.Note} {k:Nat} (h:isLed l x k) (hk:¬k<l.length):Jk l x=l.take k++x::l.drop k:=by
 have hn:l[k]? =none:=List.getElem?_eq_none (by omega)
 have e:=Jn h.1 h.2 (fun y hy=>by rw [hn] at hy;cases hy)
 simp only [Jk,e,hn]
theorem Qs {l:List D.Note} {x y:D.Note} {k:Nat} (h:isLed l x k) (hy:l[k]? =some y) (hc:¬y.Cell<x.Cell) (he:¬y.Cell=x.Cell):Jk l x=l.take k++x::l.drop k:=by
 have e:=Jn h.1 h.2 (fun z hz=>by rw [hy] at hz;cases hz;exact hc)
 simp only [Jk,e,hy,if_neg he]
theorem Qr {l:List D.Note} {x y:D.Note} {k:Nat} (h:isLed l x k) (hy:l[k]? =some y) (he:y.Cell=x.Cell) (hl:¬QP x y=true):Jk l x=l:=by
 have e:=Jn h.1 h.2 (fun z hz=>by rw [hy] at hz;cases hz;omega)
 simp only [Jk,e,hy,if_pos he,if_neg hl]
theorem QH {l:List D.Note} {x y:D.Note} {k:Nat} (h:isLed l x k) (hy:l[k]? =some y) (he:y.Cell=x.Cell) (hl:QP x y=true):Jk l x=l.take k++x::l.drop (k+1):=by
 have e:=Jn h.1 h.2 (fun z hz=>by rw [hy] at hz;cases hz;omega)
 simp only [Jk,e,hy,if_pos he,if_pos hl]
theorem QN {l:List D.Note} {x y:D.Note} {k:Nat} (h:isLed l x k) (hy:l[k]? =some y) (he:y.Cell=x.Cell) (hl:QP x y=true):Jk l x=l.set k x:=by
 have hk:=(List.getElem?_eq_some_iff.1 hy).1
 rw [QH h hy he hl,List.set_eq_take_append_cons_drop,if_pos hk]
theorem Qc0 (l:List D.Note) (x:D.Note) (k:Nat):zL Qn (l.take k++x::l.drop k)=zL Qn l+Qn x+1:=by
 have e:zL Qn l=zL Qn (l.take k++l.drop k):=by rw [List.take_append_drop]
 rw [e,YV,YV]
 simp only [zL,ZZ,List.length_cons];omega
theorem Qda (l:List D.Note) (x:D.Note) (k:Nat):zL Qn (l.take k++x::l.drop (k+1))≤zL Qn l+Qn x+1:=by
 have e:zL Qn l=zL Qn (l.take k++l.drop k):=by rw [List.take_append_drop]
 have e2:zL Qn (l.drop (k+1))≤zL Qn (l.drop k):=by
  rw [show l.drop (k+1)=(l.drop k).drop 1 from (List.drop_drop ..).symm]
  cases l.drop k with
  | nil=>exact Nat.le_refl _
  | cons y r=>simp only [List.drop_succ_cons,List.drop_zero,zL,ZZ,List.length_cons];omega
 rw [e,YV,YV]
 simp only [zL,ZZ,List.length_cons] at e2 ⊢;omega
theorem QI {α:Type} (a:List α) (x:α) (b:List α):a++ [x]++b=a++x::b:=by simp
theorem QdL {l:List D.Note} {x:D.Note} (hz:zL Qn l+Qn x+1≤2*mx) (k:Nat):zL Qn (l.take k++ [x]++l.drop k)≤2*mx:=by
 rw [QI,Qc0];exact hz
theorem QdK {l:List D.Note} {x:D.Note} (hz:zL Qn l+Qn x+1≤2*mx) (k:Nat):zL Qn (l.take k++ [x]++(l.drop k).drop 1)≤2*mx:=by
 have:=Qda l x k
 rw [QI,List.drop_drop]
 exact Nat.le_trans this hz
theorem Qc4 {l:List D.Note} {x:D.Note} (hz:zL Qn l+Qn x+1≤2*mx) (k:Nat):zL Qn (l.take k++x::l.drop k)≤2*mx:=by
 rw [Qc0];exact hz
theorem Qdt {l:List D.Note} {x:D.Note} (hz:zL Qn l+Qn x+1≤2*mx) (k:Nat):zL Qn (l.set k x)≤2*mx:=by
 have:=Qda l x k
 rw [List.set_eq_take_append_cons_drop]
 split
 ·exact Nat.le_trans this hz
 ·omega
theorem Qp {l:List D.Note} {x:D.Note} (h:¬Qb l):Qi l x=l:=if_neg (fun e=>h e.1)
theorem Qd {l q:List D.Note} {x:D.Note} (e:Jk l x=q) (h:¬Qb q):Qi l x=l:=if_neg (fun e2=>h (e▸e2.2))
theorem Qc {l q:List D.Note} {x:D.Note} (h0:Qb l) (e:Jk l x=q) (h:Qb q):Qi l x=q:=by
 subst e
 exact if_pos ⟨h0,h⟩
theorem Qj {l:List D.Note} {x:D.Note} (e:Jk l x=l):Qi l x=l:=by
 unfold Qi
 rw [e]
 split<;>rfl
theorem Qw {α:Type} {l:List α} {k:Nat} {x:α} (h:(l.drop k)[0]? =some x):l[k]? =some x:=by simpa using h
theorem QbL {q:List D.Note} (h:Qb q):zL Qn q≤80:=by
 have h1:∀l:List D.Note,(∀x∈l,Qn x≤1)→ZZ Qn l≤l.length:=fun l=>by
  induction l with
  | nil=>exact fun _=>Nat.le_refl _
  | cons x r ih =>
   intro hl
   have h2:=ih (fun y hy=>hl y (List.mem_cons_of_mem _ hy))
   have h3:=hl x List.mem_cons_self
   simp only [ZZ,List.length_cons];omega
 have h2:=h1 q (fun x hx=>by
  obtain ⟨j,hj⟩:=List.getElem?_of_mem hx
  obtain ⟨y,hy,_,h3,_⟩:=h.2 j (List.getElem?_eq_some_iff.1 hj).1
  rw [hj] at hy
  cases hy
  simp only [Qn];omega)
 have h3:=h.1
 simp only [zL];omega
theorem QcO (l:List D.Note) (x:D.Note):zL Qn (Qi l x)≤zL Qn l∨zL Qn (Qi l x)≤80:=by
 unfold Qi
 split
 ·rename_i h;exact .inr (QbL h.2)
 ·exact .inl (Nat.le_refl _)
theorem Qb1 (l:List D.Note) (x:D.Note):(Qi l x).length≤l.length∨(Qi l x).length≤40:=by
 unfold Qi
 split
 ·rename_i h;exact .inr h.2.1
 ·exact .inl (Nat.le_refl _)
end
theorem JM (n:Nat) (l:List D.Note) (x:D.Note) (hz:zL Qn l+Qn x+1≤2*mx):Pure (QK Try.prog (n+4)) 8 [(rd 4 Qa l),(T.agg (Qa false x))] (T.sl true 4 ((Qi l x).map (Qa true))):=by
 refine Pure.intro (rs:= [ResultVar.tmp 4]) Try.func8 Y Y Y (E0:= [(0,(rd 4 Qa l)),(1,(T.agg (Qa false x)))]) Y ?_
 obtain ⟨hlim,hmx,hmax⟩:=Z3
 have hl:=Qac (z:=Qn) l
 have hq1:=QdL hz
 have hq2:=QdK hz
 refine sr (kO (B.box (ts:=(Qa false x)) (tv (T.agg (Qa false x)) Y) nofun Y) (fO (OF.assign VEv.nils) (nt (sr (fO (OF.assign (VEv.int .i64 0)) (nt (sq (VRun.block ?_))))))))
 refine VRun.loop (A:=Nat) (fun s_=> [(0,(rd 4 Qa l)),(3,(T.op 0 0)),(4,T.nils),(5,(tN s_))]) (fun s_=>JU [(0,(Obj.cells (Qa false x)))]) 1 (fun s_=>isLed l x s_) (fun s_=>l.length - s_) (0:Nat) ?_ (Wk.mk (fun k=>k) ?_ ?_ ?_) ?_
 ·exact ⟨Nat.zero_le _,fun j hj=>by omega⟩
 ·exact (b2 (b2 (b2 (b2 bn))))
 ·exact (b3 bn)
 ·exact nd Y
 rintro k (hI':isLed l x k)
 show VRun _ _ _ [(0,(rd 4 Qa l)),(3,(T.op 0 0)),(4,T.nils),(5,(tN k))] (JU [(0,(Obj.cells (Qa false x)))]) 1 _
 have hI1:=hI'.1
 refine sq (sq (VRun.draw (B:= [[],[],[1],[1,2,0],[0,2,1,3],[3,1,2,0,4],[3,1,2,0,4],[6,4,0,2,1,3,5],[5,3,1,2,0,4,6,7],[7,6,4,0,2,1,3,5,8],[3,1,2,0,4],[4,0,2,1,3,10],[10,11,8,5,3,1,2,0,4,6,7,9],[9,7,6,5,8,11,10,12,3,1,2,0,4]]) (by kernel_rfl) (by kernel_rfl) (mD (tN k) Y Y (mD (rd 4 Qa l) Y Y (lD (B.lenR (m:=l.length) (tv (rd 4 Qa l) Y) QD (List.length_map ..)) Y Y (fD (Qai (tv (tN k) Y) (tv (tN l.length) Y)) Y Y (mD (tB (decide (k<l.length))) Y Y ?_)))))))
 refine gw (k<l.length) (fun fhg12_1=> ?_) fun fhg12_1=> ?_
 ·refine VRunD.free Y (VWant.on Y Y (dy fhg12_1)) Y (OF.move (tv (rd 4 Qa l) Y)) ?_
  refine VRunD.free Y (VWant.on Y Y (dy fhg12_1)) Y (OF.move (tv (tN k) Y)) ?_
  obtain ⟨x1,hx1⟩:∃x,l[k]? =some x:=⟨_,List.getElem?_eq_getElem (by first | exact hq1 _ | exact hq2 _ | omega)⟩
  refine VRunD.free Y (VWant.on Y Y (dy fhg12_1)) Y (OF.indexAddrR (row:=(Qa false x1)) (i:=k) (tv (rd 4 Qa l) Y) (tv (tN k) Y) Y (QL _ hx1) QD Qf Q2) (VRunD.free Y (VWant.on Y Y (dy fhg12_1)) Y (B.fieldAddrR (us:=(Qa false x1)) (tv (T.rp (Qa false x1)) Y) (lb Y) QW Y) (VRunD.look Y (VWant.on Y Y (dy fhg12_1)) Y (OL.loadR1 (t:=(tI x1.Cell)) (tv (T.rp (Qa false x1)) Y) Y ZC) (VRunD.free Y (VWant.on Y Y (dy fhg12_1)) Y (OF.fieldAddrO (tv (T.op 0 0) Y) QW) (VRunD.look Y (VWant.on Y Y (dy fhg12_1)) Y (OL.loadO1 (t:=(tI x.Cell)) (tv (T.op 0 0) Y) Y Y ZC) (VRunD.free Y (VWant.on Y Y (dy fhg12_1)) Y (xls (tv (tI x1.Cell) Y) (tv (tI x.Cell) Y)) (fD (OF.pickT (VEv.tmpB Y (dy fhg12_1)) (tv (tB (decide (x1.Cell<x.Cell))) Y)) Y Y (VRunD.nil (tn ?_))))))))
  refine cd (x1.Cell<x.Cell) Y (fun fhc0=> ?_) fun fhc0=> ?_
  ·refine sk ?_
   refine tn (VRun.block (VRun.region (mO (tN k) Y (fO (ZV (tv (tN k) Y) (VEv.int .i64 1) (by first | exact hq1 _ | exact hq2 _ | omega)) (aO (tN (k+1)) Y (VRunO.nil (vinB.n (tn ?_))))))))
   refine ⟨(k+1:Nat),?_,?_,Wk.mk (fun k=>k) ?_ ?_ ?_⟩
   ·exact hI'.next hx1 (by assumption)
   ·first | omega | (simp only [];omega) | (show _<_;omega) | (simp;omega)
   ·exact (b2 (b2 (b2 (b2 bn))))
   ·exact (b3 bn)
   ·exact nd Y
  refine VRun.exit (vthn.e (vthn.e (vinB.e (tn (sr (mO (rd 4 Qa l) Y (mO (tN k) Y ?_)))))))
  refine lO (show OL _ _ _ _ _ (T.sl false 4 ((l.drop k).map (Qa false))) by rw [show (l.drop k).map (Qa false)=(l.map (Qa false)).drop k from List.map_drop ..];exact (OL.sliceRLo (i:=k) (tv (rd 4 Qa l) Y) (tv (tN k) Y) Y (by first | exact hq1 _ | exact hq2 _ | omega | (simp only [List.length_map];omega) | (simp only [List.length_map,List.length_append,List.length_cons,List.length_nil,List.length_replicate,List.length_set,List.length_drop,List.length_take,QT] at *;omega)) QD Qf Q2)) (aO (rd 4 Qa (l.drop k)) Y (nt (sq (sq (VRun.draw (B:= [[],[0],[0,1],[1,0,2],[2,0,1,3],[3,1,0,2,4],[4,2,0,1,3,5],[5,3,1,0,2,4,6],[2,0,1,3],[3,1,0,2,8],[8,9,6,4,2,0,1,3,5,7],[7,5,4,6,9,8,10,2,0,1,3]]) (by kernel_rfl) (by kernel_rfl) (mD (rd 4 Qa (l.drop k)) Y Y (lD (B.lenR (m:=(l.drop k).length) (tv (rd 4 Qa (l.drop k)) Y) QD (List.length_map ..)) Y Y (fD (B.gtr (c:=(decide (0<(l.drop k).length))) (tv (tN ((l.drop k).length)) Y) (VEv.int .i64 0) (by first | exact hq1 _ | exact hq2 _ | (exact Zw (by omega)))) Y Y (mD (tB (decide (0<(l.drop k).length))) Y Y ?_)))))))))
  refine gw (0<(l.drop k).length) (fun fhg30_2=> ?_) fun fhg30_2=> ?_
  ·refine VRunD.free Y (VWant.on Y Y (dy fhg30_2)) Y (OF.move (tv (rd 4 Qa (l.drop k)) Y)) ?_
   obtain ⟨x2,hx2⟩:∃x,(l.drop k)[0]? =some x:=⟨_,List.getElem?_eq_getElem (by first | exact hq1 _ | exact hq2 _ | omega | (simp only [List.length_map];omega) | (simp only [List.length_map,List.length_append,List.length_cons,List.length_nil,List.length_replicate,List.length_set,List.length_drop,List.length_take,QT] at *;omega))⟩
   refine VRunD.free Y (VWant.on Y Y (dy fhg30_2)) Y (OF.indexAddrR (row:=(Qa false x2)) (i:=0) (tv (rd 4 Qa (l.drop k)) Y) (VEv.int .i64 0) Y (QL _ hx2) QD Qf Q2) (VRunD.free Y (VWant.on Y Y (dy fhg30_2)) Y (B.fieldAddrR (us:=(Qa false x2)) (tv (T.rp (Qa false x2)) Y) (lb Y) QW Y) (VRunD.look Y (VWant.on Y Y (dy fhg30_2)) Y (OL.loadR1 (t:=(tI x2.Cell)) (tv (T.rp (Qa false x2)) Y) Y ZC) (VRunD.free Y (VWant.on Y Y (dy fhg30_2)) Y (OF.fieldAddrO (tv (T.op 0 0) Y) QW) (VRunD.look Y (VWant.on Y Y (dy fhg30_2)) Y (OL.loadO1 (t:=(tI x.Cell)) (tv (T.op 0 0) Y) Y Y ZC) (VRunD.free Y (VWant.on Y Y (dy fhg30_2)) Y (xeq (tv (tI x2.Cell) Y) (tv (tI x.Cell) Y)) (fD (OF.pickT (VEv.tmpB Y (dy fhg30_2)) (tv (tB (decide (x2.Cell=x.Cell))) Y)) Y Y (VRunD.nil (tn ?_))))))))
   refine cd (x2.Cell=x.Cell) Y (fun fhc1=> ?_) fun fhc1=> ?_
   ·refine sq ?_
    refine sq (VRun.draw (B:= [[],[],[1],[1,2],[2,1,3,0],[0,3,1,2,4]]) (by kernel_rfl) (by kernel_rfl) (lD (OL.loadOn (us:=(Qa false x)) (tv (T.op 0 0) Y) Y ZH Qf (lb Y) Y) Y Y (mD (rd 4 Qa (l.drop k)) Y Y (fD (OF.indexAddrR (row:=(Qa false x2)) (i:=0) (tv (rd 4 Qa (l.drop k)) Y) (VEv.int .i64 0) Y (QL _ hx2) QD Qf Q2) Y Y (lD (OL.loadRn (us:=(Qa false x2)) (tv (T.rp (Qa false x2)) Y) ZH Qf (lb Y) Y) Y Y (VRunD.quiet (bi:= [2,1,3,0]) Y VWant.always Y Y Y bn (cS (vc (tv (T.agg (Qa false x)) Y) (vc (tv (T.agg (Qa false x2)) Y) vn)) (LendL.cons (lg okeNote) (LendL.cons (lg okeNote) ln)) (YP (n+2) x x2) Y Y) (fD (QV (tv (tB (QP x x2)) Y)) Y Y (VRunD.nil (tn ?_)))))))))
    refine VRun.cond (tv (tB (!(QP x x2))) Y) (fun hc2=> ?_) (fun hc2=> ?_)
    ·have fhc2:(QP x x2)=false:=Qet hc2
     refine sr (kO (OM.slice0 QD QE (by kernel_rfl) Y (by rw [Qf];decide) Qf) (mO (rd 4 Qa l) Y (cO (B.append (rows:= []) (rows2:=(l.map (Qa false))) (rows3:=(l.map (Qa true))) (VDst.own (tv (T.os 4 1 0 0) Y) Y Y) (VSrc.read (tv (rd 4 Qa l) Y) QD (okeNote.okMap _ _)) nofun QD Qf (by decide) QE Y (of_decide_eq_true (by kernel_rfl)) (by first | exact hq1 _ | exact hq2 _ | omega | (simp only [List.length_map];omega) | (simp only [List.length_map,List.length_append,List.length_cons,List.length_nil,List.length_replicate,List.length_set,List.length_drop,List.length_take,QT] at *;omega)) (List.nil_append _)) (aO (T.os 4 2 0 ((l.map (Qa true)).length)) Y (nt (rt (tr (tr ?_))))))))
     refine vfin.eq (r':=(T.sl true 4 (l.map (Qa true)))) ?_ (vfin.r (VRes.tmp (t:=(T.os 4 2 0 ((l.map (Qa true)).length))) Y VRes.nil) (Give.os Y Y (okeNote.cleanMap _)))
     refine congrArg (fun l_=>T.sl true 4 (List.map (Qa true) l_)) ?_
     first
     | (exfalso;simp only [List.length_drop] at *;omega)
     | (cases Qw hx2▸hx1;exact (Qj (Qr hI' hx1 fhc1 (by rw [fhc2];decide))).symm)
     | (symm;exact Qp ‹¬Qb l›)
     | (cases Qw hx2▸hx1;symm;have e:=QH hI' hx1 fhc1 fhc2;rw [QI,List.drop_drop] at *;first | exact Qd e fhc3 | exact Qc ‹Qb l› e fhc3)
     | (have e:=Qq hI' (by omega);rw [QI] at *;symm;first | exact Qd e fhc3 | exact Qc ‹Qb l› e fhc3)
     | (cases Qw hx2▸hx1;have e:=Qs hI' hx1 fhc0 fhc1;rw [QI] at *;symm;first | exact Qd e fhc3 | exact Qc ‹Qb l› e fhc3)
    have fhc2:(QP x x2)=true:=QeD hc2
    refine sk (tn (VRun.region (mO (rd 4 Qa (l.drop k)) Y ?_)))
    refine lO (show OL _ _ _ _ _ (T.sl false 4 (((l.drop k).drop 1).map (Qa false))) by rw [show ((l.drop k).drop 1).map (Qa false)=((l.drop k).map (Qa false)).drop 1 from List.map_drop ..];exact (OL.sliceRLo (i:=1) (tv (rd 4 Qa (l.drop k)) Y) (VEv.int .i64 1) Y (by first | exact hq1 _ | exact hq2 _ | omega | (simp only [List.length_map];omega) | (simp only [List.length_map,List.length_append,List.length_cons,List.length_nil,List.length_replicate,List.length_set,List.length_drop,List.length_take,QT] at *;omega)) QD Qf Q2)) (aO (rd 4 Qa ((l.drop k).drop 1)) Y (VRunO.nil (tn (sq (VRun.draw (B:= [[],[],[],[2,1],[1,2,3,0],[],[5],[5,6,0,3,2,1,4],[],[8,4,1,2,3,0,6,5,7],[7,5,6,0,3,2,1,4,8,9]]) (by kernel_rfl) (by kernel_rfl) (VRunD.make Y VWant.always Y (OM.slice0 QD QE (by kernel_rfl) Y (by rw [Qf];decide) Qf) (mD (rd 4 Qa l) Y Y (mD (tN k) Y Y ?_))))))))
    refine lD (show OL _ _ _ _ _ (T.sl false 4 ((l.take k).map (Qa false))) by rw [show (l.take k).map (Qa false)=(l.map (Qa false)).take k from List.map_take ..];exact (OL.sliceRHi (j:=k) (tv (rd 4 Qa l) Y) (tv (tN k) Y) Y (by first | exact hq1 _ | exact hq2 _ | omega | (simp only [List.length_map];omega) | (simp only [List.length_map,List.length_append,List.length_cons,List.length_nil,List.length_replicate,List.length_set,List.length_drop,List.length_take,QT] at *;omega)) QD Qf Q2)) Y Y (VRunD.quiet (bi:= [1,2,3,0]) Y VWant.always Y Y Y (bc (lb Y) bn) (B.append (rows:= []) (rows2:=((l.take k).map (Qa false))) (rows3:=((l.take k).map (Qa true))) (VDst.own (tv (T.os 4 1 0 0) Y) Y Y) (VSrc.read (tv (rd 4 Qa (l.take k)) Y) QD (okeNote.okMap _ _)) nofun QD Qf (by decide) QE Y (of_decide_eq_true (by kernel_rfl)) (by first | exact hq1 _ | exact hq2 _ | omega | (simp only [List.length_map];omega) | (simp only [List.length_map,List.length_append,List.length_cons,List.length_nil,List.length_replicate,List.length_set,List.length_drop,List.length_take,QT] at *;omega)) (List.nil_append _)) (lD (OL.loadOn (us:=(Qa false x)) (tv (T.op 0 0) Y) Y ZH Qf (lb Y) Y) Y Y (VRunD.make Y VWant.always Y (OM.buildSlice (l:= [(T.agg (Qa false x))]) (VEvp.cons (tv (T.agg (Qa false x)) Y) VEvp.nil) Y (by decide) (bc (nofun) bn) (bc ((bc (Y) (bc (Y) (bc (Y) (bc (Y) bn))))) bn) (bc (Y) bn) QD QE (by kernel_rfl) Y (by rw [Qf];decide) Qf (Nat.le_of_ble_eq_true Y)) (VRunD.quiet (bi:= [5,6,0,3,2,1,4]) Y VWant.always Y Y Y (bc (lb Y) (bc (lb Y) bn)) (B.append (rows:=((l.take k).map (Qa true))) (rows2:= [[(tI x.Cell),(tS x.Letter),(tI x.Tick),(tI x.Who)]]) (rows3:=(((l.take k)++ [x]).map (Qa true))) (VDst.own (tv (T.os 4 2 0 (((l.take k).map (Qa true)).length)) Y) Y Y) (VSrc.own (tv (T.os 4 3 0 1) Y) Y Y QD (bc (bc Y (bc Y (bc Y (bc Y bn)))) bn)) (by decide) QD Qf (by decide) QE Y (of_decide_eq_true (by kernel_rfl)) (by first | exact hq1 _ | exact hq2 _ | omega | (simp only [List.length_map];omega) | (simp only [List.length_map,List.length_append,List.length_cons,List.length_nil,List.length_replicate,List.length_set,List.length_drop,List.length_take,QT] at *;omega)) ((List.map_append (f:=Qa true) (l₁:=(l.take k)) (l₂:= [x])).symm)) (mD (rd 4 Qa ((l.drop k).drop 1)) Y Y (VRunD.quiet (bi:= [8,4,1,2,3,0,6,5,7]) Y VWant.always Y Y Y (bc (lb Y) bn) (B.append (rows:=(((l.take k)++ [x]).map (Qa true))) (rows2:=(((l.drop k).drop 1).map (Qa false))) (rows3:=((((l.take k)++ [x])++((l.drop k).drop 1)).map (Qa true))) (VDst.own (tv (T.os 4 4 0 ((((l.take k)++ [x]).map (Qa true)).length)) Y) Y Y) (VSrc.read (tv (rd 4 Qa ((l.drop k).drop 1)) Y) QD (okeNote.okMap _ _)) nofun QD Qf (by decide) QE Y (of_decide_eq_true (by kernel_rfl)) (by first | exact hq1 _ | exact hq2 _ | omega | (simp only [List.length_map];omega) | (simp only [List.length_map,List.length_append,List.length_cons,List.length_nil,List.length_replicate,List.length_set,List.length_drop,List.length_take,QT] at *;omega)) ((List.map_append (f:=Qa true) (l₁:=((l.take k)++ [x])) (l₂:=((l.drop k).drop 1))).symm)) ?_))))))
    refine fD (OF.assign (tv (T.os 4 5 0 (((((l.take k)++ [x])++((l.drop k).drop 1)).map (Qa true)).length)) Y)) Y Y (VRunD.nil (tn (sq (sr (mO (rd 4 Qa l) Y (cO (cS (vc (tv (rd 4 Qa l) Y) vn) (Yd Y) (Qy (n+0) l (by first | exact hq1 _ | exact hq2 _ | assumption | omega)) Y Y) (fO (QV (tv (tB (decide (Qb l))) Y)) (mO (tB (!(decide (Qb l)))) Y ?_))))))))
    refine gn (Qb l) (fun fhg63_3=> ?_) fun fhg63_3=> ?_
    ·refine Jw 3 3 false 63 (ny fhg63_3) Y Y Y ?_
     refine fO (OF.pickT (VEv.tmpB Y (ny fhg63_3)) (VEv.bool true)) (nt (ct Y (sr (kO (OM.slice0 QD QE (by kernel_rfl) Y (by rw [Qf];decide) Qf) (mO (rd 4 Qa l) Y (cO (B.append (rows:= []) (rows2:=(l.map (Qa false))) (rows3:=(l.map (Qa true))) (VDst.own (tv (T.os 4 6 0 0) Y) Y Y) (VSrc.read (tv (rd 4 Qa l) Y) QD (okeNote.okMap _ _)) nofun QD Qf (by decide) QE Y (of_decide_eq_true (by kernel_rfl)) (by first | exact hq1 _ | exact hq2 _ | omega | (simp only [List.length_map];omega) | (simp only [List.length_map,List.length_append,List.length_cons,List.length_nil,List.length_replicate,List.length_set,List.length_drop,List.length_take,QT] at *;omega)) (List.nil_append _)) (aO (T.os 4 7 0 ((l.map (Qa true)).length)) Y (nt (rt (tr ?_))))))))))
     refine vfin.eq (r':=(T.sl true 4 (l.map (Qa true)))) ?_ (vfin.r (VRes.tmp (t:=(T.os 4 7 0 ((l.map (Qa true)).length))) Y VRes.nil) (Give.os Y Y (okeNote.cleanMap _)))
     refine congrArg (fun l_=>T.sl true 4 (List.map (Qa true) l_)) ?_
     first
     | (exfalso;simp only [List.length_drop] at *;omega)
     | (cases Qw hx2▸hx1;exact (Qj (Qr hI' hx1 fhc1 (by rw [fhc2];decide))).symm)
     | (symm;exact Qp ‹¬Qb l›)
     | (cases Qw hx2▸hx1;symm;have e:=QH hI' hx1 fhc1 fhc2;rw [QI,List.drop_drop] at *;first | exact Qd e fhc3 | exact Qc ‹Qb l› e fhc3)
     | (have e:=Qq hI' (by omega);rw [QI] at *;symm;first | exact Qd e fhc3 | exact Qc ‹Qb l› e fhc3)
     | (cases Qw hx2▸hx1;have e:=Qs hI' hx1 fhc0 fhc1;rw [QI] at *;symm;first | exact Qd e fhc3 | exact Qc ‹Qb l› e fhc3)
    refine gF (nz fhg63_3) Y Y (OF.move (tv (T.os 4 5 0 (((((l.take k)++ [x])++((l.drop k).drop 1)).map (Qa true)).length)) Y)) (VRunO.chain (VWant.on Y Y (nz fhg63_3)) (cS (us:= [(rd 4 Qa (((l.take k)++ [x])++((l.drop k).drop 1)))]) (vc (tv (T.os 4 5 0 (((((l.take k)++ [x])++((l.drop k).drop 1)).map (Qa true)).length)) Y) vn) (LendL.cons (Lend.os Y Y (okeNote.fzMap _ _)) ln) (Qy (n+0) (((l.take k)++ [x])++((l.drop k).drop 1)) (by first | exact hq1 _ | exact hq2 _ | assumption | omega)) Y Y) (gF (nz fhg63_3) Y Y (QV (tv (tB (decide (Qb (((l.take k)++ [x])++((l.drop k).drop 1))))) Y)) (fO (OF.pickF (VEv.tmpB Y (nz fhg63_3)) (tv (tB (!(decide (Qb (((l.take k)++ [x])++((l.drop k).drop 1)))))) Y)) (nt ?_))))
    refine cn (Qb (((l.take k)++ [x])++((l.drop k).drop 1))) Y (fun fhc3=> ?_) fun fhc3=> ?_
    ·refine sr ?_
     refine kO (OM.slice0 QD QE (by kernel_rfl) Y (by rw [Qf];decide) Qf) (mO (rd 4 Qa l) Y (cO (B.append (rows:= []) (rows2:=(l.map (Qa false))) (rows3:=(l.map (Qa true))) (VDst.own (tv (T.os 4 6 0 0) Y) Y Y) (VSrc.read (tv (rd 4 Qa l) Y) QD (okeNote.okMap _ _)) nofun QD Qf (by decide) QE Y (of_decide_eq_true (by kernel_rfl)) (by first | exact hq1 _ | exact hq2 _ | omega | (simp only [List.length_map];omega) | (simp only [List.length_map,List.length_append,List.length_cons,List.length_nil,List.length_replicate,List.length_set,List.length_drop,List.length_take,QT] at *;omega)) (List.nil_append _)) (aO (T.os 4 7 0 ((l.map (Qa true)).length)) Y (nt (rt (tr ?_))))))
     refine vfin.eq (r':=(T.sl true 4 (l.map (Qa true)))) ?_ (vfin.r (VRes.tmp (t:=(T.os 4 7 0 ((l.map (Qa true)).length))) Y VRes.nil) (Give.os Y Y (okeNote.cleanMap _)))
     refine congrArg (fun l_=>T.sl true 4 (List.map (Qa true) l_)) ?_
     first
     | (exfalso;simp only [List.length_drop] at *;omega)
     | (cases Qw hx2▸hx1;exact (Qj (Qr hI' hx1 fhc1 (by rw [fhc2];decide))).symm)
     | (symm;exact Qp ‹¬Qb l›)
     | (cases Qw hx2▸hx1;symm;have e:=QH hI' hx1 fhc1 fhc2;rw [QI,List.drop_drop] at *;first | exact Qd e fhc3 | exact Qc ‹Qb l› e fhc3)
     | (have e:=Qq hI' (by omega);rw [QI] at *;symm;first | exact Qd e fhc3 | exact Qc ‹Qb l› e fhc3)
     | (cases Qw hx2▸hx1;have e:=Qs hI' hx1 fhc0 fhc1;rw [QI] at *;symm;first | exact Qd e fhc3 | exact Qc ‹Qb l› e fhc3)
    refine sk (tn (sr (mO (T.os 4 5 0 (((((l.take k)++ [x])++((l.drop k).drop 1)).map (Qa true)).length)) Y (aO (T.os 4 5 0 (((((l.take k)++ [x])++((l.drop k).drop 1)).map (Qa true)).length)) Y (nt (rt ?_))))))
    refine vfin.eq (r':=(T.sl true 4 ((((l.take k)++ [x])++((l.drop k).drop 1)).map (Qa true)))) ?_ (vfin.r (VRes.tmp (t:=(T.os 4 5 0 (((((l.take k)++ [x])++((l.drop k).drop 1)).map (Qa true)).length))) Y VRes.nil) (Give.os Y Y (okeNote.cleanMap _)))
    refine congrArg (fun l_=>T.sl true 4 (List.map (Qa true) l_)) ?_
    first
    | (exfalso;simp only [List.length_drop] at *;omega)
    | (cases Qw hx2▸hx1;exact (Qj (Qr hI' hx1 fhc1 (by rw [fhc2];decide))).symm)
    | (symm;exact Qp ‹¬Qb l›)
    | (cases Qw hx2▸hx1;symm;have e:=QH hI' hx1 fhc1 fhc2;rw [QI,List.drop_drop] at *;first | exact Qd e fhc3 | exact Qc ‹Qb l› e fhc3)
    | (have e:=Qq hI' (by omega);rw [QI] at *;symm;first | exact Qd e fhc3 | exact Qc ‹Qb l› e fhc3)
    | (cases Qw hx2▸hx1;have e:=Qs hI' hx1 fhc0 fhc1;rw [QI] at *;symm;first | exact Qd e fhc3 | exact Qc ‹Qb l› e fhc3)
   refine sk (tn (sq (VRun.draw (B:= [[],[],[],[2,1],[1,2,3,0],[],[5],[5,6,0,3,2,1,4],[],[8,4,1,2,3,0,6,5,7],[7,5,6,0,3,2,1,4,8,9]]) (by kernel_rfl) (by kernel_rfl) (VRunD.make Y VWant.always Y (OM.slice0 QD QE (by kernel_rfl) Y (by rw [Qf];decide) Qf) (mD (rd 4 Qa l) Y Y (mD (tN k) Y Y ?_))))))
   refine lD (show OL _ _ _ _ _ (T.sl false 4 ((l.take k).map (Qa false))) by rw [show (l.take k).map (Qa false)=(l.map (Qa false)).take k from List.map_take ..];exact (OL.sliceRHi (j:=k) (tv (rd 4 Qa l) Y) (tv (tN k) Y) Y (by first | exact hq1 _ | exact hq2 _ | omega | (simp only [List.length_map];omega) | (simp only [List.length_map,List.length_append,List.length_cons,List.length_nil,List.length_replicate,List.length_set,List.length_drop,List.length_take,QT] at *;omega)) QD Qf Q2)) Y Y (VRunD.quiet (bi:= [1,2,3,0]) Y VWant.always Y Y Y (bc (lb Y) bn) (B.append (rows:= []) (rows2:=((l.take k).map (Qa false))) (rows3:=((l.take k).map (Qa true))) (VDst.own (tv (T.os 4 1 0 0) Y) Y Y) (VSrc.read (tv (rd 4 Qa (l.take k)) Y) QD (okeNote.okMap _ _)) nofun QD Qf (by decide) QE Y (of_decide_eq_true (by kernel_rfl)) (by first | exact hq1 _ | exact hq2 _ | omega | (simp only [List.length_map];omega) | (simp only [List.length_map,List.length_append,List.length_cons,List.length_nil,List.length_replicate,List.length_set,List.length_drop,List.length_take,QT] at *;omega)) (List.nil_append _)) (lD (OL.loadOn (us:=(Qa false x)) (tv (T.op 0 0) Y) Y ZH Qf (lb Y) Y) Y Y (VRunD.make Y VWant.always Y (OM.buildSlice (l:= [(T.agg (Qa false x))]) (VEvp.cons (tv (T.agg (Qa false x)) Y) VEvp.nil) Y (by decide) (bc (nofun) bn) (bc ((bc (Y) (bc (Y) (bc (Y) (bc (Y) bn))))) bn) (bc (Y) bn) QD QE (by kernel_rfl) Y (by rw [Qf];decide) Qf (Nat.le_of_ble_eq_true Y)) (VRunD.quiet (bi:= [5,6,0,3,2,1,4]) Y VWant.always Y Y Y (bc (lb Y) (bc (lb Y) bn)) (B.append (rows:=((l.take k).map (Qa true))) (rows2:= [[(tI x.Cell),(tS x.Letter),(tI x.Tick),(tI x.Who)]]) (rows3:=(((l.take k)++ [x]).map (Qa true))) (VDst.own (tv (T.os 4 2 0 (((l.take k).map (Qa true)).length)) Y) Y Y) (VSrc.own (tv (T.os 4 3 0 1) Y) Y Y QD (bc (bc Y (bc Y (bc Y (bc Y bn)))) bn)) (by decide) QD Qf (by decide) QE Y (of_decide_eq_true (by kernel_rfl)) (by first | exact hq1 _ | exact hq2 _ | omega | (simp only [List.length_map];omega) | (simp only [List.length_map,List.length_append,List.length_cons,List.length_nil,List.length_replicate,List.length_set,List.length_drop,List.length_take,QT] at *;omega)) ((List.map_append (f:=Qa true) (l₁:=(l.take k)) (l₂:= [x])).symm)) (mD (rd 4 Qa (l.drop k)) Y Y (VRunD.quiet (bi:= [8,4,1,2,3,0,6,5,7]) Y VWant.always Y Y Y (bc (lb Y) bn) (B.append (rows:=(((l.take k)++ [x]).map (Qa true))) (rows2:=((l.drop k).map (Qa false))) (rows3:=((((l.take k)++ [x])++(l.drop k)).map (Qa true))) (VDst.own (tv (T.os 4 4 0 ((((l.take k)++ [x]).map (Qa true)).length)) Y) Y Y) (VSrc.read (tv (rd 4 Qa (l.drop k)) Y) QD (okeNote.okMap _ _)) nofun QD Qf (by decide) QE Y (of_decide_eq_true (by kernel_rfl)) (by first | exact hq1 _ | exact hq2 _ | omega | (simp only [List.length_map];omega) | (simp only [List.length_map,List.length_append,List.length_cons,List.length_nil,List.length_replicate,List.length_set,List.length_drop,List.length_take,QT] at *;omega)) ((List.map_append (f:=Qa true) (l₁:=((l.take k)++ [x])) (l₂:=(l.drop k))).symm)) ?_))))))
   refine fD (OF.assign (tv (T.os 4 5 0 (((((l.take k)++ [x])++(l.drop k)).map (Qa true)).length)) Y)) Y Y (VRunD.nil (tn (sq (sr (mO (rd 4 Qa l) Y (cO (cS (vc (tv (rd 4 Qa l) Y) vn) (Yd Y) (Qy (n+0) l (by first | exact hq1 _ | exact hq2 _ | assumption | omega)) Y Y) (fO (QV (tv (tB (decide (Qb l))) Y)) (mO (tB (!(decide (Qb l)))) Y ?_))))))))
   refine gn (Qb l) (fun fhg63_4=> ?_) fun fhg63_4=> ?_
   ·refine Jw 3 3 false 63 (ny fhg63_4) Y Y Y ?_
    refine fO (OF.pickT (VEv.tmpB Y (ny fhg63_4)) (VEv.bool true)) (nt (ct Y (sr (kO (OM.slice0 QD QE (by kernel_rfl) Y (by rw [Qf];decide) Qf) (mO (rd 4 Qa l) Y (cO (B.append (rows:= []) (rows2:=(l.map (Qa false))) (rows3:=(l.map (Qa true))) (VDst.own (tv (T.os 4 6 0 0) Y) Y Y) (VSrc.read (tv (rd 4 Qa l) Y) QD (okeNote.okMap _ _)) nofun QD Qf (by decide) QE Y (of_decide_eq_true (by kernel_rfl)) (by first | exact hq1 _ | exact hq2 _ | omega | (simp only [List.length_map];omega) | (simp only [List.length_map,List.length_append,List.length_cons,List.length_nil,List.length_replicate,List.length_set,List.length_drop,List.length_take,QT] at *;omega)) (List.nil_append _)) (aO (T.os 4 7 0 ((l.map (Qa true)).length)) Y (nt (rt (tr ?_))))))))))
    refine vfin.eq (r':=(T.sl true 4 (l.map (Qa true)))) ?_ (vfin.r (VRes.tmp (t:=(T.os 4 7 0 ((l.map (Qa true)).length))) Y VRes.nil) (Give.os Y Y (okeNote.cleanMap _)))
    refine congrArg (fun l_=>T.sl true 4 (List.map (Qa true) l_)) ?_
    first
    | (exfalso;simp only [List.length_drop] at *;omega)
    | (cases Qw hx2▸hx1;exact (Qj (Qr hI' hx1 fhc1 (by rw [fhc2];decide))).symm)
    | (symm;exact Qp ‹¬Qb l›)
    | (cases Qw hx2▸hx1;symm;have e:=QH hI' hx1 fhc1 fhc2;rw [QI,List.drop_drop] at *;first | exact Qd e fhc3 | exact Qc ‹Qb l› e fhc3)
    | (have e:=Qq hI' (by omega);rw [QI] at *;symm;first | exact Qd e fhc3 | exact Qc ‹Qb l› e fhc3)
    | (cases Qw hx2▸hx1;have e:=Qs hI' hx1 fhc0 fhc1;rw [QI] at *;symm;first | exact Qd e fhc3 | exact Qc ‹Qb l› e fhc3)
   refine gF (nz fhg63_4) Y Y (OF.move (tv (T.os 4 5 0 (((((l.take k)++ [x])++(l.drop k)).map (Qa true)).length)) Y)) (VRunO.chain (VWant.on Y Y (nz fhg63_4)) (cS (us:= [(rd 4 Qa (((l.take k)++ [x])++(l.drop k)))]) (vc (tv (T.os 4 5 0 (((((l.take k)++ [x])++(l.drop k)).map (Qa true)).length)) Y) vn) (LendL.cons (Lend.os Y Y (okeNote.fzMap _ _)) ln) (Qy (n+0) (((l.take k)++ [x])++(l.drop k)) (by first | exact hq1 _ | exact hq2 _ | assumption | omega)) Y Y) (gF (nz fhg63_4) Y Y (QV (tv (tB (decide (Qb (((l.take k)++ [x])++(l.drop k))))) Y)) (fO (OF.pickF (VEv.tmpB Y (nz fhg63_4)) (tv (tB (!(decide (Qb (((l.take k)++ [x])++(l.drop k)))))) Y)) (nt ?_))))
   refine cn (Qb (((l.take k)++ [x])++(l.drop k))) Y (fun fhc3=> ?_) fun fhc3=> ?_
   ·refine sr ?_
    refine kO (OM.slice0 QD QE (by kernel_rfl) Y (by rw [Qf];decide) Qf) (mO (rd 4 Qa l) Y (cO (B.append (rows:= []) (rows2:=(l.map (Qa false))) (rows3:=(l.map (Qa true))) (VDst.own (tv (T.os 4 6 0 0) Y) Y Y) (VSrc.read (tv (rd 4 Qa l) Y) QD (okeNote.okMap _ _)) nofun QD Qf (by decide) QE Y (of_decide_eq_true (by kernel_rfl)) (by first | exact hq1 _ | exact hq2 _ | omega | (simp only [List.length_map];omega) | (simp only [List.length_map,List.length_append,List.length_cons,List.length_nil,List.length_replicate,List.length_set,List.length_drop,List.length_take,QT] at *;omega)) (List.nil_append _)) (aO (T.os 4 7 0 ((l.map (Qa true)).length)) Y (nt (rt (tr ?_))))))
    refine vfin.eq (r':=(T.sl true 4 (l.map (Qa true)))) ?_ (vfin.r (VRes.tmp (t:=(T.os 4 7 0 ((l.map (Qa true)).length))) Y VRes.nil) (Give.os Y Y (okeNote.cleanMap _)))
    refine congrArg (fun l_=>T.sl true 4 (List.map (Qa true) l_)) ?_
    first
    | (exfalso;simp only [List.length_drop] at *;omega)
    | (cases Qw hx2▸hx1;exact (Qj (Qr hI' hx1 fhc1 (by rw [fhc2];decide))).symm)
    | (symm;exact Qp ‹¬Qb l›)
    | (cases Qw hx2▸hx1;symm;have e:=QH hI' hx1 fhc1 fhc2;rw [QI,List.drop_drop] at *;first | exact Qd e fhc3 | exact Qc ‹Qb l› e fhc3)
    | (have e:=Qq hI' (by omega);rw [QI] at *;symm;first | exact Qd e fhc3 | exact Qc ‹Qb l› e fhc3)
    | (cases Qw hx2▸hx1;have e:=Qs hI' hx1 fhc0 fhc1;rw [QI] at *;symm;first | exact Qd e fhc3 | exact Qc ‹Qb l› e fhc3)
   refine sk (tn (sr (mO (T.os 4 5 0 (((((l.take k)++ [x])++(l.drop k)).map (Qa true)).length)) Y (aO (T.os 4 5 0 (((((l.take k)++ [x])++(l.drop k)).map (Qa true)).length)) Y (nt (rt ?_))))))
   refine vfin.eq (r':=(T.sl true 4 ((((l.take k)++ [x])++(l.drop k)).map (Qa true)))) ?_ (vfin.r (VRes.tmp (t:=(T.os 4 5 0 (((((l.take k)++ [x])++(l.drop k)).map (Qa true)).length))) Y VRes.nil) (Give.os Y Y (okeNote.cleanMap _)))
   refine congrArg (fun l_=>T.sl true 4 (List.map (Qa true) l_)) ?_
   first
   | (exfalso;simp only [List.length_drop] at *;omega)
   | (cases Qw hx2▸hx1;exact (Qj (Qr hI' hx1 fhc1 (by rw [fhc2];decide))).symm)
   | (symm;exact Qp ‹¬Qb l›)
   | (cases Qw hx2▸hx1;symm;have e:=QH hI' hx1 fhc1 fhc2;rw [QI,List.drop_drop] at *;first | exact Qd e fhc3 | exact Qc ‹Qb l› e fhc3)
   | (have e:=Qq hI' (by omega);rw [QI] at *;symm;first | exact Qd e fhc3 | exact Qc ‹Qb l› e fhc3)
   | (cases Qw hx2▸hx1;have e:=Qs hI' hx1 fhc0 fhc1;rw [QI] at *;symm;first | exact Qd e fhc3 | exact Qc ‹Qb l› e fhc3)
  refine oD Y Y (dz fhg30_2) Y (oD Y Y (dz fhg30_2) Y (oD Y Y (dz fhg30_2) Y (oD Y Y (dz fhg30_2) Y (oD Y Y (dz fhg30_2) Y (oD Y Y (dz fhg30_2) Y (oD Y Y (dz fhg30_2) Y (fD (OF.pickF (VEv.tmpB Y (dz fhg30_2)) (VEv.bool false)) Y Y (VRunD.nil (tn (cf Y (sk ?_)))))))))))
  refine tn (sq (VRun.draw (B:= [[],[],[],[2,1],[1,2,3,0],[],[5],[5,6,0,3,2,1,4],[],[8,4,1,2,3,0,6,5,7],[7,5,6,0,3,2,1,4,8,9]]) (by kernel_rfl) (by kernel_rfl) (VRunD.make Y VWant.always Y (OM.slice0 QD QE (by kernel_rfl) Y (by rw [Qf];decide) Qf) (mD (rd 4 Qa l) Y Y (mD (tN k) Y Y ?_)))))
  refine lD (show OL _ _ _ _ _ (T.sl false 4 ((l.take k).map (Qa false))) by rw [show (l.take k).map (Qa false)=(l.map (Qa false)).take k from List.map_take ..];exact (OL.sliceRHi (j:=k) (tv (rd 4 Qa l) Y) (tv (tN k) Y) Y (by first | exact hq1 _ | exact hq2 _ | omega | (simp only [List.length_map];omega) | (simp only [List.length_map,List.length_append,List.length_cons,List.length_nil,List.length_replicate,List.length_set,List.length_drop,List.length_take,QT] at *;omega)) QD Qf Q2)) Y Y (VRunD.quiet (bi:= [1,2,3,0]) Y VWant.always Y Y Y (bc (lb Y) bn) (B.append (rows:= []) (rows2:=((l.take k).map (Qa false))) (rows3:=((l.take k).map (Qa true))) (VDst.own (tv (T.os 4 1 0 0) Y) Y Y) (VSrc.read (tv (rd 4 Qa (l.take k)) Y) QD (okeNote.okMap _ _)) nofun QD Qf (by decide) QE Y (of_decide_eq_true (by kernel_rfl)) (by first | exact hq1 _ | exact hq2 _ | omega | (simp only [List.length_map];omega) | (simp only [List.length_map,List.length_append,List.length_cons,List.length_nil,List.length_replicate,List.length_set,List.length_drop,List.length_take,QT] at *;omega)) (List.nil_append _)) (lD (OL.loadOn (us:=(Qa false x)) (tv (T.op 0 0) Y) Y ZH Qf (lb Y) Y) Y Y (VRunD.make Y VWant.always Y (OM.buildSlice (l:= [(T.agg (Qa false x))]) (VEvp.cons (tv (T.agg (Qa false x)) Y) VEvp.nil) Y (by decide) (bc (nofun) bn) (bc ((bc (Y) (bc (Y) (bc (Y) (bc (Y) bn))))) bn) (bc (Y) bn) QD QE (by kernel_rfl) Y (by rw [Qf];decide) Qf (Nat.le_of_ble_eq_true Y)) (VRunD.quiet (bi:= [5,6,0,3,2,1,4]) Y VWant.always Y Y Y (bc (lb Y) (bc (lb Y) bn)) (B.append (rows:=((l.take k).map (Qa true))) (rows2:= [[(tI x.Cell),(tS x.Letter),(tI x.Tick),(tI x.Who)]]) (rows3:=(((l.take k)++ [x]).map (Qa true))) (VDst.own (tv (T.os 4 2 0 (((l.take k).map (Qa true)).length)) Y) Y Y) (VSrc.own (tv (T.os 4 3 0 1) Y) Y Y QD (bc (bc Y (bc Y (bc Y (bc Y bn)))) bn)) (by decide) QD Qf (by decide) QE Y (of_decide_eq_true (by kernel_rfl)) (by first | exact hq1 _ | exact hq2 _ | omega | (simp only [List.length_map];omega) | (simp only [List.length_map,List.length_append,List.length_cons,List.length_nil,List.length_replicate,List.length_set,List.length_drop,List.length_take,QT] at *;omega)) ((List.map_append (f:=Qa true) (l₁:=(l.take k)) (l₂:= [x])).symm)) (mD (rd 4 Qa (l.drop k)) Y Y (VRunD.quiet (bi:= [8,4,1,2,3,0,6,5,7]) Y VWant.always Y Y Y (bc (lb Y) bn) (B.append (rows:=(((l.take k)++ [x]).map (Qa true))) (rows2:=((l.drop k).map (Qa false))) (rows3:=((((l.take k)++ [x])++(l.drop k)).map (Qa true))) (VDst.own (tv (T.os 4 4 0 ((((l.take k)++ [x]).map (Qa true)).length)) Y) Y Y) (VSrc.read (tv (rd 4 Qa (l.drop k)) Y) QD (okeNote.okMap _ _)) nofun QD Qf (by decide) QE Y (of_decide_eq_true (by kernel_rfl)) (by first | exact hq1 _ | exact hq2 _ | omega | (simp only [List.length_map];omega) | (simp only [List.length_map,List.length_append,List.length_cons,List.length_nil,List.length_replicate,List.length_set,List.length_drop,List.length_take,QT] at *;omega)) ((List.map_append (f:=Qa true) (l₁:=((l.take k)++ [x])) (l₂:=(l.drop k))).symm)) ?_))))))
  refine fD (OF.assign (tv (T.os 4 5 0 (((((l.take k)++ [x])++(l.drop k)).map (Qa true)).length)) Y)) Y Y (VRunD.nil (tn (sq (sr (mO (rd 4 Qa l) Y (cO (cS (vc (tv (rd 4 Qa l) Y) vn) (Yd Y) (Qy (n+0) l (by first | exact hq1 _ | exact hq2 _ | assumption | omega)) Y Y) (fO (QV (tv (tB (decide (Qb l))) Y)) (mO (tB (!(decide (Qb l)))) Y ?_))))))))
  refine gn (Qb l) (fun fhg63_5=> ?_) fun fhg63_5=> ?_
  ·refine Jw 3 3 false 63 (ny fhg63_5) Y Y Y ?_
   refine fO (OF.pickT (VEv.tmpB Y (ny fhg63_5)) (VEv.bool true)) (nt (ct Y (sr (kO (OM.slice0 QD QE (by kernel_rfl) Y (by rw [Qf];decide) Qf) (mO (rd 4 Qa l) Y (cO (B.append (rows:= []) (rows2:=(l.map (Qa false))) (rows3:=(l.map (Qa true))) (VDst.own (tv (T.os 4 6 0 0) Y) Y Y) (VSrc.read (tv (rd 4 Qa l) Y) QD (okeNote.okMap _ _)) nofun QD Qf (by decide) QE Y (of_decide_eq_true (by kernel_rfl)) (by first | exact hq1 _ | exact hq2 _ | omega | (simp only [List.length_map];omega) | (simp only [List.length_map,List.length_append,List.length_cons,List.length_nil,List.length_replicate,List.length_set,List.length_drop,List.length_take,QT] at *;omega)) (List.nil_append _)) (aO (T.os 4 7 0 ((l.map (Qa true)).length)) Y (nt (rt (tr ?_))))))))))
   refine vfin.eq (r':=(T.sl true 4 (l.map (Qa true)))) ?_ (vfin.r (VRes.tmp (t:=(T.os 4 7 0 ((l.map (Qa true)).length))) Y VRes.nil) (Give.os Y Y (okeNote.cleanMap _)))
   refine congrArg (fun l_=>T.sl true 4 (List.map (Qa true) l_)) ?_
   first
   | (exfalso;simp only [List.length_drop] at *;omega)
   | (cases Qw hx2▸hx1;exact (Qj (Qr hI' hx1 fhc1 (by rw [fhc2];decide))).symm)
   | (symm;exact Qp ‹¬Qb l›)
   | (cases Qw hx2▸hx1;symm;have e:=QH hI' hx1 fhc1 fhc2;rw [QI,List.drop_drop] at *;first | exact Qd e fhc3 | exact Qc ‹Qb l› e fhc3)
   | (have e:=Qq hI' (by omega);rw [QI] at *;symm;first | exact Qd e fhc3 | exact Qc ‹Qb l› e fhc3)
   | (cases Qw hx2▸hx1;have e:=Qs hI' hx1 fhc0 fhc1;rw [QI] at *;symm;first | exact Qd e fhc3 | exact Qc ‹Qb l› e fhc3)
  refine gF (nz fhg63_5) Y Y (OF.move (tv (T.os 4 5 0 (((((l.take k)++ [x])++(l.drop k)).map (Qa true)).length)) Y)) (VRunO.chain (VWant.on Y Y (nz fhg63_5)) (cS (us:= [(rd 4 Qa (((l.take k)++ [x])++(l.drop k)))]) (vc (tv (T.os 4 5 0 (((((l.take k)++ [x])++(l.drop k)).map (Qa true)).length)) Y) vn) (LendL.cons (Lend.os Y Y (okeNote.fzMap _ _)) ln) (Qy (n+0) (((l.take k)++ [x])++(l.drop k)) (by first | exact hq1 _ | exact hq2 _ | assumption | omega)) Y Y) (gF (nz fhg63_5) Y Y (QV (tv (tB (decide (Qb (((l.take k)++ [x])++(l.drop k))))) Y)) (fO (OF.pickF (VEv.tmpB Y (nz fhg63_5)) (tv (tB (!(decide (Qb (((l.take k)++ [x])++(l.drop k)))))) Y)) (nt ?_))))
  refine cn (Qb (((l.take k)++ [x])++(l.drop k))) Y (fun fhc3=> ?_) fun fhc3=> ?_
  ·refine sr ?_
   refine kO (OM.slice0 QD QE (by kernel_rfl) Y (by rw [Qf];decide) Qf) (mO (rd 4 Qa l) Y (cO (B.append (rows:= []) (rows2:=(l.map (Qa false))) (rows3:=(l.map (Qa true))) (VDst.own (tv (T.os 4 6 0 0) Y) Y Y) (VSrc.read (tv (rd 4 Qa l) Y) QD (okeNote.okMap _ _)) nofun QD Qf (by decide) QE Y (of_decide_eq_true (by kernel_rfl)) (by first | exact hq1 _ | exact hq2 _ | omega | (simp only [List.length_map];omega) | (simp only [List.length_map,List.length_append,List.length_cons,List.length_nil,List.length_replicate,List.length_set,List.length_drop,List.length_take,QT] at *;omega)) (List.nil_append _)) (aO (T.os 4 7 0 ((l.map (Qa true)).length)) Y (nt (rt (tr ?_))))))
   refine vfin.eq (r':=(T.sl true 4 (l.map (Qa true)))) ?_ (vfin.r (VRes.tmp (t:=(T.os 4 7 0 ((l.map (Qa true)).length))) Y VRes.nil) (Give.os Y Y (okeNote.cleanMap _)))
   refine congrArg (fun l_=>T.sl true 4 (List.map (Qa true) l_)) ?_
   first
   | (exfalso;simp only [List.length_drop] at *;omega)
   | (cases Qw hx2▸hx1;exact (Qj (Qr hI' hx1 fhc1 (by rw [fhc2];decide))).symm)
   | (symm;exact Qp ‹¬Qb l›)
   | (cases Qw hx2▸hx1;symm;have e:=QH hI' hx1 fhc1 fhc2;rw [QI,List.drop_drop] at *;first | exact Qd e fhc3 | exact Qc ‹Qb l› e fhc3)
   | (have e:=Qq hI' (by omega);rw [QI] at *;symm;first | exact Qd e fhc3 | exact Qc ‹Qb l› e fhc3)
   | (cases Qw hx2▸hx1;have e:=Qs hI' hx1 fhc0 fhc1;rw [QI] at *;symm;first | exact Qd e fhc3 | exact Qc ‹Qb l› e fhc3)
  refine sk (tn (sr (mO (T.os 4 5 0 (((((l.take k)++ [x])++(l.drop k)).map (Qa true)).length)) Y (aO (T.os 4 5 0 (((((l.take k)++ [x])++(l.drop k)).map (Qa true)).length)) Y (nt (rt ?_))))))
  refine vfin.eq (r':=(T.sl true 4 ((((l.take k)++ [x])++(l.drop k)).map (Qa true)))) ?_ (vfin.r (VRes.tmp (t:=(T.os 4 5 0 (((((l.take k)++ [x])++(l.drop k)).map (Qa true)).length))) Y VRes.nil) (Give.os Y Y (okeNote.cleanMap _)))
  refine congrArg (fun l_=>T.sl true 4 (List.map (Qa true) l_)) ?_
  first
  | (exfalso;simp only [List.length_drop] at *;omega)
  | (cases Qw hx2▸hx1;exact (Qj (Qr hI' hx1 fhc1 (by rw [fhc2];decide))).symm)
  | (symm;exact Qp ‹¬Qb l›)
  | (cases Qw hx2▸hx1;symm;have e:=QH hI' hx1 fhc1 fhc2;rw [QI,List.drop_drop] at *;first | exact Qd e fhc3 | exact Qc ‹Qb l› e fhc3)
  | (have e:=Qq hI' (by omega);rw [QI] at *;symm;first | exact Qd e fhc3 | exact Qc ‹Qb l› e fhc3)
  | (cases Qw hx2▸hx1;have e:=Qs hI' hx1 fhc0 fhc1;rw [QI] at *;symm;first | exact Qd e fhc3 | exact Qc ‹Qb l› e fhc3)
 refine oD Y Y (dz fhg12_1) Y (oD Y Y (dz fhg12_1) Y (oD Y Y (dz fhg12_1) Y (oD Y Y (dz fhg12_1) Y (oD Y Y (dz fhg12_1) Y (oD Y Y (dz fhg12_1) Y (oD Y Y (dz fhg12_1) Y (oD Y Y (dz fhg12_1) Y (fD (OF.pickF (VEv.tmpB Y (dz fhg12_1)) (VEv.bool false)) Y Y (VRunD.nil (tn (cf Y ?_)))))))))))
 refine VRun.exit (vthn.e (vthn.e (vinB.e (tn (sr (mO (rd 4 Qa l) Y (mO (tN k) Y ?_)))))))
 refine lO (show OL _ _ _ _ _ (T.sl false 4 ((l.drop k).map (Qa false))) by rw [show (l.drop k).map (Qa false)=(l.map (Qa false)).drop k from List.map_drop ..];exact (OL.sliceRLo (i:=k) (tv (rd 4 Qa l) Y) (tv (tN k) Y) Y (by first | exact hq1 _ | exact hq2 _ | omega | (simp only [List.length_map];omega) | (simp only [List.length_map,List.length_append,List.length_cons,List.length_nil,List.length_replicate,List.length_set,List.length_drop,List.length_take,QT] at *;omega)) QD Qf Q2)) (aO (rd 4 Qa (l.drop k)) Y (nt (sq (sq (VRun.draw (B:= [[],[0],[0,1],[1,0,2],[2,0,1,3],[3,1,0,2,4],[4,2,0,1,3,5],[5,3,1,0,2,4,6],[2,0,1,3],[3,1,0,2,8],[8,9,6,4,2,0,1,3,5,7],[7,5,4,6,9,8,10,2,0,1,3]]) (by kernel_rfl) (by kernel_rfl) (mD (rd 4 Qa (l.drop k)) Y Y (lD (B.lenR (m:=(l.drop k).length) (tv (rd 4 Qa (l.drop k)) Y) QD (List.length_map ..)) Y Y (fD (B.gtr (c:=(decide (0<(l.drop k).length))) (tv (tN ((l.drop k).length)) Y) (VEv.int .i64 0) (by first | exact hq1 _ | exact hq2 _ | (exact Zw (by omega)))) Y Y (mD (tB (decide (0<(l.drop k).length))) Y Y ?_)))))))))
 refine gw (0<(l.drop k).length) (fun fhg30_6=> ?_) fun fhg30_6=> ?_
 ·refine VRunD.free Y (VWant.on Y Y (dy fhg30_6)) Y (OF.move (tv (rd 4 Qa (l.drop k)) Y)) ?_
  obtain ⟨x1,hx1⟩:∃x,(l.drop k)[0]? =some x:=⟨_,List.getElem?_eq_getElem (by first | exact hq1 _ | exact hq2 _ | omega | (simp only [List.length_map];omega) | (simp only [List.length_map,List.length_append,List.length_cons,List.length_nil,List.length_replicate,List.length_set,List.length_drop,List.length_take,QT] at *;omega))⟩
  refine VRunD.free Y (VWant.on Y Y (dy fhg30_6)) Y (OF.indexAddrR (row:=(Qa false x1)) (i:=0) (tv (rd 4 Qa (l.drop k)) Y) (VEv.int .i64 0) Y (QL _ hx1) QD Qf Q2) (VRunD.free Y (VWant.on Y Y (dy fhg30_6)) Y (B.fieldAddrR (us:=(Qa false x1)) (tv (T.rp (Qa false x1)) Y) (lb Y) QW Y) (VRunD.look Y (VWant.on Y Y (dy fhg30_6)) Y (OL.loadR1 (t:=(tI x1.Cell)) (tv (T.rp (Qa false x1)) Y) Y ZC) (VRunD.free Y (VWant.on Y Y (dy fhg30_6)) Y (OF.fieldAddrO (tv (T.op 0 0) Y) QW) (VRunD.look Y (VWant.on Y Y (dy fhg30_6)) Y (OL.loadO1 (t:=(tI x.Cell)) (tv (T.op 0 0) Y) Y Y ZC) (VRunD.free Y (VWant.on Y Y (dy fhg30_6)) Y (xeq (tv (tI x1.Cell) Y) (tv (tI x.Cell) Y)) (fD (OF.pickT (VEv.tmpB Y (dy fhg30_6)) (tv (tB (decide (x1.Cell=x.Cell))) Y)) Y Y (VRunD.nil (tn ?_))))))))
  refine cd (x1.Cell=x.Cell) Y (fun fhc1=> ?_) fun fhc1=> ?_
  ·refine sq ?_
   refine sq (VRun.draw (B:= [[],[],[1],[1,2],[2,1,3,0],[0,3,1,2,4]]) (by kernel_rfl) (by kernel_rfl) (lD (OL.loadOn (us:=(Qa false x)) (tv (T.op 0 0) Y) Y ZH Qf (lb Y) Y) Y Y (mD (rd 4 Qa (l.drop k)) Y Y (fD (OF.indexAddrR (row:=(Qa false x1)) (i:=0) (tv (rd 4 Qa (l.drop k)) Y) (VEv.int .i64 0) Y (QL _ hx1) QD Qf Q2) Y Y (lD (OL.loadRn (us:=(Qa false x1)) (tv (T.rp (Qa false x1)) Y) ZH Qf (lb Y) Y) Y Y (VRunD.quiet (bi:= [2,1,3,0]) Y VWant.always Y Y Y bn (cS (vc (tv (T.agg (Qa false x)) Y) (vc (tv (T.agg (Qa false x1)) Y) vn)) (LendL.cons (lg okeNote) (LendL.cons (lg okeNote) ln)) (YP (n+2) x x1) Y Y) (fD (QV (tv (tB (QP x x1)) Y)) Y Y (VRunD.nil (tn ?_)))))))))
   refine VRun.cond (tv (tB (!(QP x x1))) Y) (fun hc2=> ?_) (fun hc2=> ?_)
   ·have fhc2:(QP x x1)=false:=Qet hc2
    refine sr (kO (OM.slice0 QD QE (by kernel_rfl) Y (by rw [Qf];decide) Qf) (mO (rd 4 Qa l) Y (cO (B.append (rows:= []) (rows2:=(l.map (Qa false))) (rows3:=(l.map (Qa true))) (VDst.own (tv (T.os 4 1 0 0) Y) Y Y) (VSrc.read (tv (rd 4 Qa l) Y) QD (okeNote.okMap _ _)) nofun QD Qf (by decide) QE Y (of_decide_eq_true (by kernel_rfl)) (by first | exact hq1 _ | exact hq2 _ | omega | (simp only [List.length_map];omega) | (simp only [List.length_map,List.length_append,List.length_cons,List.length_nil,List.length_replicate,List.length_set,List.length_drop,List.length_take,QT] at *;omega)) (List.nil_append _)) (aO (T.os 4 2 0 ((l.map (Qa true)).length)) Y (nt (rt (tr (tr ?_))))))))
    refine vfin.eq (r':=(T.sl true 4 (l.map (Qa true)))) ?_ (vfin.r (VRes.tmp (t:=(T.os 4 2 0 ((l.map (Qa true)).length))) Y VRes.nil) (Give.os Y Y (okeNote.cleanMap _)))
    refine congrArg (fun l_=>T.sl true 4 (List.map (Qa true) l_)) ?_
    first
    | (exfalso;simp only [List.length_drop] at *;omega)
    | (cases Qw hx2▸hx1;exact (Qj (Qr hI' hx1 fhc1 (by rw [fhc2];decide))).symm)
    | (symm;exact Qp ‹¬Qb l›)
    | (cases Qw hx2▸hx1;symm;have e:=QH hI' hx1 fhc1 fhc2;rw [QI,List.drop_drop] at *;first | exact Qd e fhc3 | exact Qc ‹Qb l› e fhc3)
    | (have e:=Qq hI' (by omega);rw [QI] at *;symm;first | exact Qd e fhc3 | exact Qc ‹Qb l› e fhc3)
    | (cases Qw hx2▸hx1;have e:=Qs hI' hx1 fhc0 fhc1;rw [QI] at *;symm;first | exact Qd e fhc3 | exact Qc ‹Qb l› e fhc3)
   have fhc2:(QP x x1)=true:=QeD hc2
   refine sk (tn (VRun.region (mO (rd 4 Qa (l.drop k)) Y ?_)))
   refine lO (show OL _ _ _ _ _ (T.sl false 4 (((l.drop k).drop 1).map (Qa false))) by rw [show ((l.drop k).drop 1).map (Qa false)=((l.drop k).map (Qa false)).drop 1 from List.map_drop ..];exact (OL.sliceRLo (i:=1) (tv (rd 4 Qa (l.drop k)) Y) (VEv.int .i64 1) Y (by first | exact hq1 _ | exact hq2 _ | omega | (simp only [List.length_map];omega) | (simp only [List.length_map,List.length_append,List.length_cons,List.length_nil,List.length_replicate,List.length_set,List.length_drop,List.length_take,QT] at *;omega)) QD Qf Q2)) (aO (rd 4 Qa ((l.drop k).drop 1)) Y (VRunO.nil (tn (sq (VRun.draw (B:= [[],[],[],[2,1],[1,2,3,0],[],[5],[5,6,0,3,2,1,4],[],[8,4,1,2,3,0,6,5,7],[7,5,6,0,3,2,1,4,8,9]]) (by kernel_rfl) (by kernel_rfl) (VRunD.make Y VWant.always Y (OM.slice0 QD QE (by kernel_rfl) Y (by rw [Qf];decide) Qf) (mD (rd 4 Qa l) Y Y (mD (tN k) Y Y ?_))))))))
   refine lD (show OL _ _ _ _ _ (T.sl false 4 ((l.take k).map (Qa false))) by rw [show (l.take k).map (Qa false)=(l.map (Qa false)).take k from List.map_take ..];exact (OL.sliceRHi (j:=k) (tv (rd 4 Qa l) Y) (tv (tN k) Y) Y (by first | exact hq1 _ | exact hq2 _ | omega | (simp only [List.length_map];omega) | (simp only [List.length_map,List.length_append,List.length_cons,List.length_nil,List.length_replicate,List.length_set,List.length_drop,List.length_take,QT] at *;omega)) QD Qf Q2)) Y Y (VRunD.quiet (bi:= [1,2,3,0]) Y VWant.always Y Y Y (bc (lb Y) bn) (B.append (rows:= []) (rows2:=((l.take k).map (Qa false))) (rows3:=((l.take k).map (Qa true))) (VDst.own (tv (T.os 4 1 0 0) Y) Y Y) (VSrc.read (tv (rd 4 Qa (l.take k)) Y) QD (okeNote.okMap _ _)) nofun QD Qf (by decide) QE Y (of_decide_eq_true (by kernel_rfl)) (by first | exact hq1 _ | exact hq2 _ | omega | (simp only [List.length_map];omega) | (simp only [List.length_map,List.length_append,List.length_cons,List.length_nil,List.length_replicate,List.length_set,List.length_drop,List.length_take,QT] at *;omega)) (List.nil_append _)) (lD (OL.loadOn (us:=(Qa false x)) (tv (T.op 0 0) Y) Y ZH Qf (lb Y) Y) Y Y (VRunD.make Y VWant.always Y (OM.buildSlice (l:= [(T.agg (Qa false x))]) (VEvp.cons (tv (T.agg (Qa false x)) Y) VEvp.nil) Y (by decide) (bc (nofun) bn) (bc ((bc (Y) (bc (Y) (bc (Y) (bc (Y) bn))))) bn) (bc (Y) bn) QD QE (by kernel_rfl) Y (by rw [Qf];decide) Qf (Nat.le_of_ble_eq_true Y)) (VRunD.quiet (bi:= [5,6,0,3,2,1,4]) Y VWant.always Y Y Y (bc (lb Y) (bc (lb Y) bn)) (B.append (rows:=((l.take k).map (Qa true))) (rows2:= [[(tI x.Cell),(tS x.Letter),(tI x.Tick),(tI x.Who)]]) (rows3:=(((l.take k)++ [x]).map (Qa true))) (VDst.own (tv (T.os 4 2 0 (((l.take k).map (Qa true)).length)) Y) Y Y) (VSrc.own (tv (T.os 4 3 0 1) Y) Y Y QD (bc (bc Y (bc Y (bc Y (bc Y bn)))) bn)) (by decide) QD Qf (by decide) QE Y (of_decide_eq_true (by kernel_rfl)) (by first | exact hq1 _ | exact hq2 _ | omega | (simp only [List.length_map];omega) | (simp only [List.length_map,List.length_append,List.length_cons,List.length_nil,List.length_replicate,List.length_set,List.length_drop,List.length_take,QT] at *;omega)) ((List.map_append (f:=Qa true) (l₁:=(l.take k)) (l₂:= [x])).symm)) (mD (rd 4 Qa ((l.drop k).drop 1)) Y Y (VRunD.quiet (bi:= [8,4,1,2,3,0,6,5,7]) Y VWant.always Y Y Y (bc (lb Y) bn) (B.append (rows:=(((l.take k)++ [x]).map (Qa true))) (rows2:=(((l.drop k).drop 1).map (Qa false))) (rows3:=((((l.take k)++ [x])++((l.drop k).drop 1)).map (Qa true))) (VDst.own (tv (T.os 4 4 0 ((((l.take k)++ [x]).map (Qa true)).length)) Y) Y Y) (VSrc.read (tv (rd 4 Qa ((l.drop k).drop 1)) Y) QD (okeNote.okMap _ _)) nofun QD Qf (by decide) QE Y (of_decide_eq_true (by kernel_rfl)) (by first | exact hq1 _ | exact hq2 _ | omega | (simp only [List.length_map];omega) | (simp only [List.length_map,List.length_append,List.length_cons,List.length_nil,List.length_replicate,List.length_set,List.length_drop,List.length_take,QT] at *;omega)) ((List.map_append (f:=Qa true) (l₁:=((l.take k)++ [x])) (l₂:=((l.drop k).drop 1))).symm)) ?_))))))
   refine fD (OF.assign (tv (T.os 4 5 0 (((((l.take k)++ [x])++((l.drop k).drop 1)).map (Qa true)).length)) Y)) Y Y (VRunD.nil (tn (sq (sr (mO (rd 4 Qa l) Y (cO (cS (vc (tv (rd 4 Qa l) Y) vn) (Yd Y) (Qy (n+0) l (by first | exact hq1 _ | exact hq2 _ | assumption | omega)) Y Y) (fO (QV (tv (tB (decide (Qb l))) Y)) (mO (tB (!(decide (Qb l)))) Y ?_))))))))
   refine gn (Qb l) (fun fhg63_7=> ?_) fun fhg63_7=> ?_
   ·refine Jw 3 3 false 63 (ny fhg63_7) Y Y Y ?_
    refine fO (OF.pickT (VEv.tmpB Y (ny fhg63_7)) (VEv.bool true)) (nt (ct Y (sr (kO (OM.slice0 QD QE (by kernel_rfl) Y (by rw [Qf];decide) Qf) (mO (rd 4 Qa l) Y (cO (B.append (rows:= []) (rows2:=(l.map (Qa false))) (rows3:=(l.map (Qa true))) (VDst.own (tv (T.os 4 6 0 0) Y) Y Y) (VSrc.read (tv (rd 4 Qa l) Y) QD (okeNote.okMap _ _)) nofun QD Qf (by decide) QE Y (of_decide_eq_true (by kernel_rfl)) (by first | exact hq1 _ | exact hq2 _ | omega | (simp only [List.length_map];omega) | (simp only [List.length_map,List.length_append,List.length_cons,List.length_nil,List.length_replicate,List.length_set,List.length_drop,List.length_take,QT] at *;omega)) (List.nil_append _)) (aO (T.os 4 7 0 ((l.map (Qa true)).length)) Y (nt (rt (tr ?_))))))))))
    refine vfin.eq (r':=(T.sl true 4 (l.map (Qa true)))) ?_ (vfin.r (VRes.tmp (t:=(T.os 4 7 0 ((l.map (Qa true)).length))) Y VRes.nil) (Give.os Y Y (okeNote.cleanMap _)))
    refine congrArg (fun l_=>T.sl true 4 (List.map (Qa true) l_)) ?_
    first
    | (exfalso;simp only [List.length_drop] at *;omega)
    | (cases Qw hx2▸hx1;exact (Qj (Qr hI' hx1 fhc1 (by rw [fhc2];decide))).symm)
    | (symm;exact Qp ‹¬Qb l›)
    | (cases Qw hx2▸hx1;symm;have e:=QH hI' hx1 fhc1 fhc2;rw [QI,List.drop_drop] at *;first | exact Qd e fhc3 | exact Qc ‹Qb l› e fhc3)
    | (have e:=Qq hI' (by omega);rw [QI] at *;symm;first | exact Qd e fhc3 | exact Qc ‹Qb l› e fhc3)
    | (cases Qw hx2▸hx1;have e:=Qs hI' hx1 fhc0 fhc1;rw [QI] at *;symm;first | exact Qd e fhc3 | exact Qc ‹Qb l› e fhc3)
   refine gF (nz fhg63_7) Y Y (OF.move (tv (T.os 4 5 0 (((((l.take k)++ [x])++((l.drop k).drop 1)).map (Qa true)).length)) Y)) (VRunO.chain (VWant.on Y Y (nz fhg63_7)) (cS (us:= [(rd 4 Qa (((l.take k)++ [x])++((l.drop k).drop 1)))]) (vc (tv (T.os 4 5 0 (((((l.take k)++ [x])++((l.drop k).drop 1)).map (Qa true)).length)) Y) vn) (LendL.cons (Lend.os Y Y (okeNote.fzMap _ _)) ln) (Qy (n+0) (((l.take k)++ [x])++((l.drop k).drop 1)) (by first | exact hq1 _ | exact hq2 _ | assumption | omega)) Y Y) (gF (nz fhg63_7) Y Y (QV (tv (tB (decide (Qb (((l.take k)++ [x])++((l.drop k).drop 1))))) Y)) (fO (OF.pickF (VEv.tmpB Y (nz fhg63_7)) (tv (tB (!(decide (Qb (((l.take k)++ [x])++((l.drop k).drop 1)))))) Y)) (nt ?_))))
   refine cn (Qb (((l.take k)++ [x])++((l.drop k).drop 1))) Y (fun fhc3=> ?_) fun fhc3=> ?_
   ·refine sr ?_
    refine kO (OM.slice0 QD QE (by kernel_rfl) Y (by rw [Qf];decide) Qf) (mO (rd 4 Qa l) Y (cO (B.append (rows:= []) (rows2:=(l.map (Qa false))) (rows3:=(l.map (Qa true))) (VDst.own (tv (T.os 4 6 0 0) Y) Y Y) (VSrc.read (tv (rd 4 Qa l) Y) QD (okeNote.okMap _ _)) nofun QD Qf (by decide) QE Y (of_decide_eq_true (by kernel_rfl)) (by first | exact hq1 _ | exact hq2 _ | omega | (simp only [List.length_map];omega) | (simp only [List.length_map,List.length_append,List.length_cons,List.length_nil,List.length_replicate,List.length_set,List.length_drop,List.length_take,QT] at *;omega)) (List.nil_append _)) (aO (T.os 4 7 0 ((l.map (Qa true)).length)) Y (nt (rt (tr ?_))))))
    refine vfin.eq (r':=(T.sl true 4 (l.map (Qa true)))) ?_ (vfin.r (VRes.tmp (t:=(T.os 4 7 0 ((l.map (Qa true)).length))) Y VRes.nil) (Give.os Y Y (okeNote.cleanMap _)))
    refine congrArg (fun l_=>T.sl true 4 (List.map (Qa true) l_)) ?_
    first
    | (exfalso;simp only [List.length_drop] at *;omega)
    | (cases Qw hx2▸hx1;exact (Qj (Qr hI' hx1 fhc1 (by rw [fhc2];decide))).symm)
    | (symm;exact Qp ‹¬Qb l›)
    | (cases Qw hx2▸hx1;symm;have e:=QH hI' hx1 fhc1 fhc2;rw [QI,List.drop_drop] at *;first | exact Qd e fhc3 | exact Qc ‹Qb l› e fhc3)
    | (have e:=Qq hI' (by omega);rw [QI] at *;symm;first | exact Qd e fhc3 | exact Qc ‹Qb l› e fhc3)
    | (cases Qw hx2▸hx1;have e:=Qs hI' hx1 fhc0 fhc1;rw [QI] at *;symm;first | exact Qd e fhc3 | exact Qc ‹Qb l› e fhc3)
   refine sk (tn (sr (mO (T.os 4 5 0 (((((l.take k)++ [x])++((l.drop k).drop 1)).map (Qa true)).length)) Y (aO (T.os 4 5 0 (((((l.take k)++ [x])++((l.drop k).drop 1)).map (Qa true)).length)) Y (nt (rt ?_))))))
   refine vfin.eq (r':=(T.sl true 4 ((((l.take k)++ [x])++((l.drop k).drop 1)).map (Qa true)))) ?_ (vfin.r (VRes.tmp (t:=(T.os 4 5 0 (((((l.take k)++ [x])++((l.drop k).drop 1)).map (Qa true)).length))) Y VRes.nil) (Give.os Y Y (okeNote.cleanMap _)))
   refine congrArg (fun l_=>T.sl true 4 (List.map (Qa true) l_)) ?_
   first
   | (exfalso;simp only [List.length_drop] at *;omega)
   | (cases Qw hx2▸hx1;exact (Qj (Qr hI' hx1 fhc1 (by rw [fhc2];decide))).symm)
   | (symm;exact Qp ‹¬Qb l›)
   | (cases Qw hx2▸hx1;symm;have e:=QH hI' hx1 fhc1 fhc2;rw [QI,List.drop_drop] at *;first | exact Qd e fhc3 | exact Qc ‹Qb l› e fhc3)
   | (have e:=Qq hI' (by omega);rw [QI] at *;symm;first | exact Qd e fhc3 | exact Qc ‹Qb l› e fhc3)
   | (cases Qw hx2▸hx1;have e:=Qs hI' hx1 fhc0 fhc1;rw [QI] at *;symm;first | exact Qd e fhc3 | exact Qc ‹Qb l› e fhc3)
  refine sk (tn (sq (VRun.draw (B:= [[],[],[],[2,1],[1,2,3,0],[],[5],[5,6,0,3,2,1,4],[],[8,4,1,2,3,0,6,5,7],[7,5,6,0,3,2,1,4,8,9]]) (by kernel_rfl) (by kernel_rfl) (VRunD.make Y VWant.always Y (OM.slice0 QD QE (by kernel_rfl) Y (by rw [Qf];decide) Qf) (mD (rd 4 Qa l) Y Y (mD (tN k) Y Y ?_))))))
  refine lD (show OL _ _ _ _ _ (T.sl false 4 ((l.take k).map (Qa false))) by rw [show (l.take k).map (Qa false)=(l.map (Qa false)).take k from List.map_take ..];exact (OL.sliceRHi (j:=k) (tv (rd 4 Qa l) Y) (tv (tN k) Y) Y (by first | exact hq1 _ | exact hq2 _ | omega | (simp only [List.length_map];omega) | (simp only [List.length_map,List.length_append,List.length_cons,List.length_nil,List.length_replicate,List.length_set,List.length_drop,List.length_take,QT] at *;omega)) QD Qf Q2)) Y Y (VRunD.quiet (bi:= [1,2,3,0]) Y VWant.always Y Y Y (bc (lb Y) bn) (B.append (rows:= []) (rows2:=((l.take k).map (Qa false))) (rows3:=((l.take k).map (Qa true))) (VDst.own (tv (T.os 4 1 0 0) Y) Y Y) (VSrc.read (tv (rd 4 Qa (l.take k)) Y) QD (okeNote.okMap _ _)) nofun QD Qf (by decide) QE Y (of_decide_eq_true (by kernel_rfl)) (by first | exact hq1 _ | exact hq2 _ | omega | (simp only [List.length_map];omega) | (simp only [List.length_map,List.length_append,List.length_cons,List.length_nil,List.length_replicate,List.length_set,List.length_drop,List.length_take,QT] at *;omega)) (List.nil_append _)) (lD (OL.loadOn (us:=(Qa false x)) (tv (T.op 0 0) Y) Y ZH Qf (lb Y) Y) Y Y (VRunD.make Y VWant.always Y (OM.buildSlice (l:= [(T.agg (Qa false x))]) (VEvp.cons (tv (T.agg (Qa false x)) Y) VEvp.nil) Y (by decide) (bc (nofun) bn) (bc ((bc (Y) (bc (Y) (bc (Y) (bc (Y) bn))))) bn) (bc (Y) bn) QD QE (by kernel_rfl) Y (by rw [Qf];decide) Qf (Nat.le_of_ble_eq_true Y)) (VRunD.quiet (bi:= [5,6,0,3,2,1,4]) Y VWant.always Y Y Y (bc (lb Y) (bc (lb Y) bn)) (B.append (rows:=((l.take k).map (Qa true))) (rows2:= [[(tI x.Cell),(tS x.Letter),(tI x.Tick),(tI x.Who)]]) (rows3:=(((l.take k)++ [x]).map (Qa true))) (VDst.own (tv (T.os 4 2 0 (((l.take k).map (Qa true)).length)) Y) Y Y) (VSrc.own (tv (T.os 4 3 0 1) Y) Y Y QD (bc (bc Y (bc Y (bc Y (bc Y bn)))) bn)) (by decide) QD Qf (by decide) QE Y (of_decide_eq_true (by kernel_rfl)) (by first | exact hq1 _ | exact hq2 _ | omega | (simp only [List.length_map];omega) | (simp only [List.length_map,List.length_append,List.length_cons,List.length_nil,List.length_replicate,List.length_set,List.length_drop,List.length_take,QT] at *;omega)) ((List.map_append (f:=Qa true) (l₁:=(l.take k)) (l₂:= [x])).symm)) (mD (rd 4 Qa (l.drop k)) Y Y (VRunD.quiet (bi:= [8,4,1,2,3,0,6,5,7]) Y VWant.always Y Y Y (bc (lb Y) bn) (B.append (rows:=(((l.take k)++ [x]).map (Qa true))) (rows2:=((l.drop k).map (Qa false))) (rows3:=((((l.take k)++ [x])++(l.drop k)).map (Qa true))) (VDst.own (tv (T.os 4 4 0 ((((l.take k)++ [x]).map (Qa true)).length)) Y) Y Y) (VSrc.read (tv (rd 4 Qa (l.drop k)) Y) QD (okeNote.okMap _ _)) nofun QD Qf (by decide) QE Y (of_decide_eq_true (by kernel_rfl)) (by first | exact hq1 _ | exact hq2 _ | omega | (simp only [List.length_map];omega) | (simp only [List.length_map,List.length_append,List.length_cons,List.length_nil,List.length_replicate,List.length_set,List.length_drop,List.length_take,QT] at *;omega)) ((List.map_append (f:=Qa true) (l₁:=((l.take k)++ [x])) (l₂:=(l.drop k))).symm)) ?_))))))
  refine fD (OF.assign (tv (T.os 4 5 0 (((((l.take k)++ [x])++(l.drop k)).map (Qa true)).length)) Y)) Y Y (VRunD.nil (tn (sq (sr (mO (rd 4 Qa l) Y (cO (cS (vc (tv (rd 4 Qa l) Y) vn) (Yd Y) (Qy (n+0) l (by first | exact hq1 _ | exact hq2 _ | assumption | omega)) Y Y) (fO (QV (tv (tB (decide (Qb l))) Y)) (mO (tB (!(decide (Qb l)))) Y ?_))))))))
  refine gn (Qb l) (fun fhg63_8=> ?_) fun fhg63_8=> ?_
  ·refine Jw 3 3 false 63 (ny fhg63_8) Y Y Y ?_
   refine fO (OF.pickT (VEv.tmpB Y (ny fhg63_8)) (VEv.bool true)) (nt (ct Y (sr (kO (OM.slice0 QD QE (by kernel_rfl) Y (by rw [Qf];decide) Qf) (mO (rd 4 Qa l) Y (cO (B.append (rows:= []) (rows2:=(l.map (Qa false))) (rows3:=(l.map (Qa true))) (VDst.own (tv (T.os 4 6 0 0) Y) Y Y) (VSrc.read (tv (rd 4 Qa l) Y) QD (okeNote.okMap _ _)) nofun QD Qf (by decide) QE Y (of_decide_eq_true (by kernel_rfl)) (by first | exact hq1 _ | exact hq2 _ | omega | (simp only [List.length_map];omega) | (simp only [List.length_map,List.length_append,List.length_cons,List.length_nil,List.length_replicate,List.length_set,List.length_drop,List.length_take,QT] at *;omega)) (List.nil_append _)) (aO (T.os 4 7 0 ((l.map (Qa true)).length)) Y (nt (rt (tr ?_))))))))))
   refine vfin.eq (r':=(T.sl true 4 (l.map (Qa true)))) ?_ (vfin.r (VRes.tmp (t:=(T.os 4 7 0 ((l.map (Qa true)).length))) Y VRes.nil) (Give.os Y Y (okeNote.cleanMap _)))
   refine congrArg (fun l_=>T.sl true 4 (List.map (Qa true) l_)) ?_
   first
   | (exfalso;simp only [List.length_drop] at *;omega)
   | (cases Qw hx2▸hx1;exact (Qj (Qr hI' hx1 fhc1 (by rw [fhc2];decide))).symm)
   | (symm;exact Qp ‹¬Qb l›)
   | (cases Qw hx2▸hx1;symm;have e:=QH hI' hx1 fhc1 fhc2;rw [QI,List.drop_drop] at *;first | exact Qd e fhc3 | exact Qc ‹Qb l› e fhc3)
   | (have e:=Qq hI' (by omega);rw [QI] at *;symm;first | exact Qd e fhc3 | exact Qc ‹Qb l› e fhc3)
   | (cases Qw hx2▸hx1;have e:=Qs hI' hx1 fhc0 fhc1;rw [QI] at *;symm;first | exact Qd e fhc3 | exact Qc ‹Qb l› e fhc3)
  refine gF (nz fhg63_8) Y Y (OF.move (tv (T.os 4 5 0 (((((l.take k)++ [x])++(l.drop k)).map (Qa true)).length)) Y)) (VRunO.chain (VWant.on Y Y (nz fhg63_8)) (cS (us:= [(rd 4 Qa (((l.take k)++ [x])++(l.drop k)))]) (vc (tv (T.os 4 5 0 (((((l.take k)++ [x])++(l.drop k)).map (Qa true)).length)) Y) vn) (LendL.cons (Lend.os Y Y (okeNote.fzMap _ _)) ln) (Qy (n+0) (((l.take k)++ [x])++(l.drop k)) (by first | exact hq1 _ | exact hq2 _ | assumption | omega)) Y Y) (gF (nz fhg63_8) Y Y (QV (tv (tB (decide (Qb (((l.take k)++ [x])++(l.drop k))))) Y)) (fO (OF.pickF (VEv.tmpB Y (nz fhg63_8)) (tv (tB (!(decide (Qb (((l.take k)++ [x])++(l.drop k)))))) Y)) (nt ?_))))
  refine cn (Qb (((l.take k)++ [x])++(l.drop k))) Y (fun fhc3=> ?_) fun fhc3=> ?_
  ·refine sr ?_
   refine kO (OM.slice0 QD QE (by kernel_rfl) Y (by rw [Qf];decide) Qf) (mO (rd 4 Qa l) Y (cO (B.append (rows:= []) (rows2:=(l.map (Qa false))) (rows3:=(l.map (Qa true))) (VDst.own (tv (T.os 4 6 0 0) Y) Y Y) (VSrc.read (tv (rd 4 Qa l) Y) QD (okeNote.okMap _ _)) nofun QD Qf (by decide) QE Y (of_decide_eq_true (by kernel_rfl)) (by first | exact hq1 _ | exact hq2 _ | omega | (simp only [List.length_map];omega) | (simp only [List.length_map,List.length_append,List.length_cons,List.length_nil,List.length_replicate,List.length_set,List.length_drop,List.length_take,QT] at *;omega)) (List.nil_append _)) (aO (T.os 4 7 0 ((l.map (Qa true)).length)) Y (nt (rt (tr ?_))))))
   refine vfin.eq (r':=(T.sl true 4 (l.map (Qa true)))) ?_ (vfin.r (VRes.tmp (t:=(T.os 4 7 0 ((l.map (Qa true)).length))) Y VRes.nil) (Give.os Y Y (okeNote.cleanMap _)))
   refine congrArg (fun l_=>T.sl true 4 (List.map (Qa true) l_)) ?_
   first
   | (exfalso;simp only [List.length_drop] at *;omega)
   | (cases Qw hx2▸hx1;exact (Qj (Qr hI' hx1 fhc1 (by rw [fhc2];decide))).symm)
   | (symm;exact Qp ‹¬Qb l›)
   | (cases Qw hx2▸hx1;symm;have e:=QH hI' hx1 fhc1 fhc2;rw [QI,List.drop_drop] at *;first | exact Qd e fhc3 | exact Qc ‹Qb l› e fhc3)
   | (have e:=Qq hI' (by omega);rw [QI] at *;symm;first | exact Qd e fhc3 | exact Qc ‹Qb l› e fhc3)
   | (cases Qw hx2▸hx1;have e:=Qs hI' hx1 fhc0 fhc1;rw [QI] at *;symm;first | exact Qd e fhc3 | exact Qc ‹Qb l› e fhc3)
  refine sk (tn (sr (mO (T.os 4 5 0 (((((l.take k)++ [x])++(l.drop k)).map (Qa true)).length)) Y (aO (T.os 4 5 0 (((((l.take k)++ [x])++(l.drop k)).map (Qa true)).length)) Y (nt (rt ?_))))))
  refine vfin.eq (r':=(T.sl true 4 ((((l.take k)++ [x])++(l.drop k)).map (Qa true)))) ?_ (vfin.r (VRes.tmp (t:=(T.os 4 5 0 (((((l.take k)++ [x])++(l.drop k)).map (Qa true)).length))) Y VRes.nil) (Give.os Y Y (okeNote.cleanMap _)))
  refine congrArg (fun l_=>T.sl true 4 (List.map (Qa true) l_)) ?_
  first
  | (exfalso;simp only [List.length_drop] at *;omega)
  | (cases Qw hx2▸hx1;exact (Qj (Qr hI' hx1 fhc1 (by rw [fhc2];decide))).symm)
  | (symm;exact Qp ‹¬Qb l›)
  | (cases Qw hx2▸hx1;symm;have e:=QH hI' hx1 fhc1 fhc2;rw [QI,List.drop_drop] at *;first | exact Qd e fhc3 | exact Qc ‹Qb l› e fhc3)
  | (have e:=Qq hI' (by omega);rw [QI] at *;symm;first | exact Qd e fhc3 | exact Qc ‹Qb l› e fhc3)
  | (cases Qw hx2▸hx1;have e:=Qs hI' hx1 fhc0 fhc1;rw [QI] at *;symm;first | exact Qd e fhc3 | exact Qc ‹Qb l› e fhc3)
 refine oD Y Y (dz fhg30_6) Y (oD Y Y (dz fhg30_6) Y (oD Y Y (dz fhg30_6) Y (oD Y Y (dz fhg30_6) Y (oD Y Y (dz fhg30_6) Y (oD Y Y (dz fhg30_6) Y (oD Y Y (dz fhg30_6) Y (fD (OF.pickF (VEv.tmpB Y (dz fhg30_6)) (VEv.bool false)) Y Y (VRunD.nil (tn (cf Y (sk ?_)))))))))))
 refine tn (sq (VRun.draw (B:= [[],[],[],[2,1],[1,2,3,0],[],[5],[5,6,0,3,2,1,4],[],[8,4,1,2,3,0,6,5,7],[7,5,6,0,3,2,1,4,8,9]]) (by kernel_rfl) (by kernel_rfl) (VRunD.make Y VWant.always Y (OM.slice0 QD QE (by kernel_rfl) Y (by rw [Qf];decide) Qf) (mD (rd 4 Qa l) Y Y (mD (tN k) Y Y ?_)))))
 refine lD (show OL _ _ _ _ _ (T.sl false 4 ((l.take k).map (Qa false))) by rw [show (l.take k).map (Qa false)=(l.map (Qa false)).take k from List.map_take ..];exact (OL.sliceRHi (j:=k) (tv (rd 4 Qa l) Y) (tv (tN k) Y) Y (by first | exact hq1 _ | exact hq2 _ | omega | (simp only [List.length_map];omega) | (simp only [List.length_map,List.length_append,List.length_cons,List.length_nil,List.length_replicate,List.length_set,List.length_drop,List.length_take,QT] at *;omega)) QD Qf Q2)) Y Y (VRunD.quiet (bi:= [1,2,3,0]) Y VWant.always Y Y Y (bc (lb Y) bn) (B.append (rows:= []) (rows2:=((l.take k).map (Qa false))) (rows3:=((l.take k).map (Qa true))) (VDst.own (tv (T.os 4 1 0 0) Y) Y Y) (VSrc.read (tv (rd 4 Qa (l.take k)) Y) QD (okeNote.okMap _ _)) nofun QD Qf (by decide) QE Y (of_decide_eq_true (by kernel_rfl)) (by first | exact hq1 _ | exact hq2 _ | omega | (simp only [List.length_map];omega) | (simp only [List.length_map,List.length_append,List.length_cons,List.length_nil,List.length_replicate,List.length_set,List.length_drop,List.length_take,QT] at *;omega)) (List.nil_append _)) (lD (OL.loadOn (us:=(Qa false x)) (tv (T.op 0 0) Y) Y ZH Qf (lb Y) Y) Y Y (VRunD.make Y VWant.always Y (OM.buildSlice (l:= [(T.agg (Qa false x))]) (VEvp.cons (tv (T.agg (Qa false x)) Y) VEvp.nil) Y (by decide) (bc (nofun) bn) (bc ((bc (Y) (bc (Y) (bc (Y) (bc (Y) bn))))) bn) (bc (Y) bn) QD QE (by kernel_rfl) Y (by rw [Qf];decide) Qf (Nat.le_of_ble_eq_true Y)) (VRunD.quiet (bi:= [5,6,0,3,2,1,4]) Y VWant.always Y Y Y (bc (lb Y) (bc (lb Y) bn)) (B.append (rows:=((l.take k).map (Qa true))) (rows2:= [[(tI x.Cell),(tS x.Letter),(tI x.Tick),(tI x.Who)]]) (rows3:=(((l.take k)++ [x]).map (Qa true))) (VDst.own (tv (T.os 4 2 0 (((l.take k).map (Qa true)).length)) Y) Y Y) (VSrc.own (tv (T.os 4 3 0 1) Y) Y Y QD (bc (bc Y (bc Y (bc Y (bc Y bn)))) bn)) (by decide) QD Qf (by decide) QE Y (of_decide_eq_true (by kernel_rfl)) (by first | exact hq1 _ | exact hq2 _ | omega | (simp only [List.length_map];omega) | (simp only [List.length_map,List.length_append,List.length_cons,List.length_nil,List.length_replicate,List.length_set,List.length_drop,List.length_take,QT] at *;omega)) ((List.map_append (f:=Qa true) (l₁:=(l.take k)) (l₂:= [x])).symm)) (mD (rd 4 Qa (l.drop k)) Y Y (VRunD.quiet (bi:= [8,4,1,2,3,0,6,5,7]) Y VWant.always Y Y Y (bc (lb Y) bn) (B.append (rows:=(((l.take k)++ [x]).map (Qa true))) (rows2:=((l.drop k).map (Qa false))) (rows3:=((((l.take k)++ [x])++(l.drop k)).map (Qa true))) (VDst.own (tv (T.os 4 4 0 ((((l.take k)++ [x]).map (Qa true)).length)) Y) Y Y) (VSrc.read (tv (rd 4 Qa (l.drop k)) Y) QD (okeNote.okMap _ _)) nofun QD Qf (by decide) QE Y (of_decide_eq_true (by kernel_rfl)) (by first | exact hq1 _ | exact hq2 _ | omega | (simp only [List.length_map];omega) | (simp only [List.length_map,List.length_append,List.length_cons,List.length_nil,List.length_replicate,List.length_set,List.length_drop,List.length_take,QT] at *;omega)) ((List.map_append (f:=Qa true) (l₁:=((l.take k)++ [x])) (l₂:=(l.drop k))).symm)) ?_))))))
 refine fD (OF.assign (tv (T.os 4 5 0 (((((l.take k)++ [x])++(l.drop k)).map (Qa true)).length)) Y)) Y Y (VRunD.nil (tn (sq (sr (mO (rd 4 Qa l) Y (cO (cS (vc (tv (rd 4 Qa l) Y) vn) (Yd Y) (Qy (n+0) l (by first | exact hq1 _ | exact hq2 _ | assumption | omega)) Y Y) (fO (QV (tv (tB (decide (Qb l))) Y)) (mO (tB (!(decide (Qb l)))) Y ?_))))))))
 refine gn (Qb l) (fun fhg63_9=> ?_) fun fhg63_9=> ?_
 ·refine Jw 3 3 false 63 (ny fhg63_9) Y Y Y ?_
  refine fO (OF.pickT (VEv.tmpB Y (ny fhg63_9)) (VEv.bool true)) (nt (ct Y (sr (kO (OM.slice0 QD QE (by kernel_rfl) Y (by rw [Qf];decide) Qf) (mO (rd 4 Qa l) Y (cO (B.append (rows:= []) (rows2:=(l.map (Qa false))) (rows3:=(l.map (Qa true))) (VDst.own (tv (T.os 4 6 0 0) Y) Y Y) (VSrc.read (tv (rd 4 Qa l) Y) QD (okeNote.okMap _ _)) nofun QD Qf (by decide) QE Y (of_decide_eq_true (by kernel_rfl)) (by first | exact hq1 _ | exact hq2 _ | omega | (simp only [List.length_map];omega) | (simp only [List.length_map,List.length_append,List.length_cons,List.length_nil,List.length_replicate,List.length_set,List.length_drop,List.length_take,QT] at *;omega)) (List.nil_append _)) (aO (T.os 4 7 0 ((l.map (Qa true)).length)) Y (nt (rt (tr ?_))))))))))
  refine vfin.eq (r':=(T.sl true 4 (l.map (Qa true)))) ?_ (vfin.r (VRes.tmp (t:=(T.os 4 7 0 ((l.map (Qa true)).length))) Y VRes.nil) (Give.os Y Y (okeNote.cleanMap _)))
  refine congrArg (fun l_=>T.sl true 4 (List.map (Qa true) l_)) ?_
  first
  | (exfalso;simp only [List.length_drop] at *;omega)
  | (cases Qw hx2▸hx1;exact (Qj (Qr hI' hx1 fhc1 (by rw [fhc2];decide))).symm)
  | (symm;exact Qp ‹¬Qb l›)
  | (cases Qw hx2▸hx1;symm;have e:=QH hI' hx1 fhc1 fhc2;rw [QI,List.drop_drop] at *;first | exact Qd e fhc3 | exact Qc ‹Qb l› e fhc3)
  | (have e:=Qq hI' (by omega);rw [QI] at *;symm;first | exact Qd e fhc3 | exact Qc ‹Qb l› e fhc3)
  | (cases Qw hx2▸hx1;have e:=Qs hI' hx1 fhc0 fhc1;rw [QI] at *;symm;first | exact Qd e fhc3 | exact Qc ‹Qb l› e fhc3)
 refine gF (nz fhg63_9) Y Y (OF.move (tv (T.os 4 5 0 (((((l.take k)++ [x])++(l.drop k)).map (Qa true)).length)) Y)) (VRunO.chain (VWant.on Y Y (nz fhg63_9)) (cS (us:= [(rd 4 Qa (((l.take k)++ [x])++(l.drop k)))]) (vc (tv (T.os 4 5 0 (((((l.take k)++ [x])++(l.drop k)).map (Qa true)).length)) Y) vn) (LendL.cons (Lend.os Y Y (okeNote.fzMap _ _)) ln) (Qy (n+0) (((l.take k)++ [x])++(l.drop k)) (by first | exact hq1 _ | exact hq2 _ | assumption | omega)) Y Y) (gF (nz fhg63_9) Y Y (QV (tv (tB (decide (Qb (((l.take k)++ [x])++(l.drop k))))) Y)) (fO (OF.pickF (VEv.tmpB Y (nz fhg63_9)) (tv (tB (!(decide (Qb (((l.take k)++ [x])++(l.drop k)))))) Y)) (nt ?_))))
 refine cn (Qb (((l.take k)++ [x])++(l.drop k))) Y (fun fhc3=> ?_) fun fhc3=> ?_
 ·refine sr ?_
  refine kO (OM.slice0 QD QE (by kernel_rfl) Y (by rw [Qf];decide) Qf) (mO (rd 4 Qa l) Y (cO (B.append (rows:= []) (rows2:=(l.map (Qa false))) (rows3:=(l.map (Qa true))) (VDst.own (tv (T.os 4 6 0 0) Y) Y Y) (VSrc.read (tv (rd 4 Qa l) Y) QD (okeNote.okMap _ _)) nofun QD Qf (by decide) QE Y (of_decide_eq_true (by kernel_rfl)) (by first | exact hq1 _ | exact hq2 _ | omega | (simp only [List.length_map];omega) | (simp only [List.length_map,List.length_append,List.length_cons,List.length_nil,List.length_replicate,List.length_set,List.length_drop,List.length_take,QT] at *;omega)) (List.nil_append _)) (aO (T.os 4 7 0 ((l.map (Qa true)).length)) Y (nt (rt (tr ?_))))))
  refine vfin.eq (r':=(T.sl true 4 (l.map (Qa true)))) ?_ (vfin.r (VRes.tmp (t:=(T.os 4 7 0 ((l.map (Qa true)).length))) Y VRes.nil) (Give.os Y Y (okeNote.cleanMap _)))
  refine congrArg (fun l_=>T.sl true 4 (List.map (Qa true) l_)) ?_
  first
  | (exfalso;simp only [List.length_drop] at *;omega)
  | (cases Qw hx2▸hx1;exact (Qj (Qr hI' hx1 fhc1 (by rw [fhc2];decide))).symm)
  | (symm;exact Qp ‹¬Qb l›)
  | (cases Qw hx2▸hx1;symm;have e:=QH hI' hx1 fhc1 fhc2;rw [QI,List.drop_drop] at *;first | exact Qd e fhc3 | exact Qc ‹Qb l› e fhc3)
  | (have e:=Qq hI' (by omega);rw [QI] at *;symm;first | exact Qd e fhc3 | exact Qc ‹Qb l› e fhc3)
  | (cases Qw hx2▸hx1;have e:=Qs hI' hx1 fhc0 fhc1;rw [QI] at *;symm;first | exact Qd e fhc3 | exact Qc ‹Qb l› e fhc3)
 refine sk (tn (sr (mO (T.os 4 5 0 (((((l.take k)++ [x])++(l.drop k)).map (Qa true)).length)) Y (aO (T.os 4 5 0 (((((l.take k)++ [x])++(l.drop k)).map (Qa true)).length)) Y (nt (rt ?_))))))
 refine vfin.eq (r':=(T.sl true 4 ((((l.take k)++ [x])++(l.drop k)).map (Qa true)))) ?_ (vfin.r (VRes.tmp (t:=(T.os 4 5 0 (((((l.take k)++ [x])++(l.drop k)).map (Qa true)).length))) Y VRes.nil) (Give.os Y Y (okeNote.cleanMap _)))
 refine congrArg (fun l_=>T.sl true 4 (List.map (Qa true) l_)) ?_
 first
 | (exfalso;simp only [List.length_drop] at *;omega)
 | (cases Qw hx2▸hx1;exact (Qj (Qr hI' hx1 fhc1 (by rw [fhc2];decide))).symm)
 | (symm;exact Qp ‹¬Qb l›)
 | (cases Qw hx2▸hx1;symm;have e:=QH hI' hx1 fhc1 fhc2;rw [QI,List.drop_drop] at *;first | exact Qd e fhc3 | exact Qc ‹Qb l› e fhc3)
 | (have e:=Qq hI' (by omega);rw [QI] at *;symm;first | exact Qd e fhc3 | exact Qc ‹Qb l› e fhc3)
 | (cases Qw hx2▸hx1;have e:=Qs hI' hx1 fhc0 fhc1;rw [QI] at *;symm;first | exact Qd e fhc3 | exact Qc ‹Qb l› e fhc3)
theorem YB (n:Nat) (l:List D.Note) (x:D.Note) (hz:zL Qn l+Qn x+1≤2*mx):Pure (QK Try.prog (n+4)) 11 [(rd 4 Qa l),(T.agg (Qa false x))] (T.sl true 4 ((Qi l x).map (Qa true))):=by
 refine Pure.intro (rs:= [ResultVar.tmp 4]) Try.func11 Y Y Y (E0:= [(0,(rd 4 Qa l)),(1,(T.agg (Qa false x)))]) Y ?_
 obtain ⟨hlim,hmx,hmax⟩:=Z3
 have hl:=Qac (z:=Qn) l
 have hq1:=Qc4 hz
 have hq2:=Qdt hz
 refine sr (kO (B.box (ts:=(Qa false x)) (tv (T.agg (Qa false x)) Y) nofun Y) (fO (OF.assign VEv.nils) (nt (sr (mO (rd 4 Qa l) Y (cO (OC.callF (r':=(T.os 4 1 0 ((l.map (Qa true)).length))) (objs:= [(Obj.rows 4 (l.map (Qa true)))]) Y (vc (tv (rd 4 Qa l) Y) vn) (Yd Y) (Qg (n+2) l (by first | exact hq1 _ | exact hq2 _ | assumption | omega)) Y) (aO (T.os 4 1 0 ((l.map (Qa true)).length)) Y (nt (sr (fO (OF.assign (VEv.int .i64 0)) (nt ?_)))))))))))
 refine sq (VRun.block ?_)
 refine VRun.loop (A:=Nat) (fun s_=> [(0,(rd 4 Qa l)),(3,(T.op 0 0)),(4,T.nils),(5,(T.os 4 1 0 ((l.map (Qa true)).length))),(6,(tN s_))]) (fun s_=>JU [(0,(Obj.cells (Qa false x))),(1,(Obj.rows 4 (l.map (Qa true))))]) 2 (fun s_=>isLed l x s_) (fun s_=>l.length - s_) (0:Nat) ?_ (Wk.mk (fun k=>k) ?_ ?_ ?_) ?_
 ·exact ⟨Nat.zero_le _,fun j hj=>by omega⟩
 ·exact (b2 (b2 (b2 (b2 (b2 bn)))))
 ·exact (b3 (b3 bn))
 ·exact nd Y
 rintro k (hI':isLed l x k)
 show VRun _ _ _ [(0,(rd 4 Qa l)),(3,(T.op 0 0)),(4,T.nils),(5,(T.os 4 1 0 ((l.map (Qa true)).length))),(6,(tN k))] (JU [(0,(Obj.cells (Qa false x))),(1,(Obj.rows 4 (l.map (Qa true))))]) 2 _
 have hI1:=hI'.1
 refine sq (sq (VRun.draw (B:= [[],[],[1],[1,2,0],[0,2,1,3],[3,1,2,0,4],[3,1,2,0,4],[6,4,0,2,1,3,5],[5,3,1,2,0,4,6,7],[7,6,4,0,2,1,3,5,8],[3,1,2,0,4],[4,0,2,1,3,10],[10,11,8,5,3,1,2,0,4,6,7,9],[9,7,6,5,8,11,10,12,3,1,2,0,4]]) (by kernel_rfl) (by kernel_rfl) (mD (tN k) Y Y (mD (rd 4 Qa l) Y Y (lD (B.lenR (m:=l.length) (tv (rd 4 Qa l) Y) QD (List.length_map ..)) Y Y (fD (Qai (tv (tN k) Y) (tv (tN l.length) Y)) Y Y (mD (tB (decide (k<l.length))) Y Y ?_)))))))
 refine gw (k<l.length) (fun fhg13_1=> ?_) fun fhg13_1=> ?_
 ·refine VRunD.free Y (VWant.on Y Y (dy fhg13_1)) Y (OF.move (tv (rd 4 Qa l) Y)) ?_
  refine VRunD.free Y (VWant.on Y Y (dy fhg13_1)) Y (OF.move (tv (tN k) Y)) ?_
  obtain ⟨x1,hx1⟩:∃x,l[k]? =some x:=⟨_,List.getElem?_eq_getElem (by first | exact hq1 _ | exact hq2 _ | omega)⟩
  refine VRunD.free Y (VWant.on Y Y (dy fhg13_1)) Y (OF.indexAddrR (row:=(Qa false x1)) (i:=k) (tv (rd 4 Qa l) Y) (tv (tN k) Y) Y (QL _ hx1) QD Qf Q2) (VRunD.free Y (VWant.on Y Y (dy fhg13_1)) Y (B.fieldAddrR (us:=(Qa false x1)) (tv (T.rp (Qa false x1)) Y) (lb Y) QW Y) (VRunD.look Y (VWant.on Y Y (dy fhg13_1)) Y (OL.loadR1 (t:=(tI x1.Cell)) (tv (T.rp (Qa false x1)) Y) Y ZC) (VRunD.free Y (VWant.on Y Y (dy fhg13_1)) Y (OF.fieldAddrO (tv (T.op 0 0) Y) QW) (VRunD.look Y (VWant.on Y Y (dy fhg13_1)) Y (OL.loadO1 (t:=(tI x.Cell)) (tv (T.op 0 0) Y) Y Y ZC) (VRunD.free Y (VWant.on Y Y (dy fhg13_1)) Y (xls (tv (tI x1.Cell) Y) (tv (tI x.Cell) Y)) (fD (OF.pickT (VEv.tmpB Y (dy fhg13_1)) (tv (tB (decide (x1.Cell<x.Cell))) Y)) Y Y (VRunD.nil (tn ?_))))))))
  refine cd (x1.Cell<x.Cell) Y (fun fhc0=> ?_) fun fhc0=> ?_
  ·refine sk ?_
   refine tn (VRun.block (VRun.region (mO (tN k) Y (fO (ZV (tv (tN k) Y) (VEv.int .i64 1) (by first | exact hq1 _ | exact hq2 _ | omega)) (aO (tN (k+1)) Y (VRunO.nil (vinB.n (tn ?_))))))))
   refine ⟨(k+1:Nat),?_,?_,Wk.mk (fun k=>k) ?_ ?_ ?_⟩
   ·exact hI'.next hx1 (by assumption)
   ·first | omega | (simp only [];omega) | (show _<_;omega) | (simp;omega)
   ·exact (b2 (b2 (b2 (b2 (b2 bn)))))
   ·exact (b3 (b3 bn))
   ·exact nd Y
  refine VRun.exit (vthn.e (vthn.e (vinB.e (tn (sq (VRun.block (sr (mO (rd 4 Qa l) Y (cO (cS (vc (tv (rd 4 Qa l) Y) vn) (Yd Y) (Qx (n+0) l (by first | exact hq1 _ | exact hq2 _ | assumption | omega)) Y Y) (fO (QV (tv (tB (decide (Qb l))) Y)) (aO (tB (!(decide (Qb l)))) Y ?_)))))))))))
  refine nt ?_
  refine cn (Qb l) Y (fun fhc1=> ?_) fun fhc1=> ?_
  ·refine sk ?_
   refine vinB.n (tn (sq (sr (mO (T.os 4 1 0 ((l.map (Qa true)).length)) Y (cO (cS (us:= [(rd 4 Qa l)]) (vc (tv (T.os 4 1 0 ((l.map (Qa true)).length)) Y) vn) (LendL.cons (Lend.os Y Y (okeNote.fzMap _ _)) ln) (Qx (n+0) l (by first | exact hq1 _ | exact hq2 _ | assumption | omega)) Y Y) (fO (QV (tv (tB (decide (Qb l))) Y)) (nt (ck (ny fhc1) Y (sr (mO (rd 4 Qa l) Y (cO (OC.callF (r':=(T.os 4 2 0 ((l.map (Qa true)).length))) (objs:= [(Obj.rows 4 (l.map (Qa true)))]) Y (vc (tv (rd 4 Qa l) Y) vn) (Yd Y) (Qg (n+2) l (by first | exact hq1 _ | exact hq2 _ | assumption | omega)) Y) ?_)))))))))))
   refine aO (T.os 4 2 0 ((l.map (Qa true)).length)) Y (nt (rt (tr ?_)))
   refine vfin.eq (r':=(T.sl true 4 (l.map (Qa true)))) ?_ (vfin.r (VRes.tmp (t:=(T.os 4 2 0 ((l.map (Qa true)).length))) Y VRes.nil) (Give.os Y Y (okeNote.cleanMap _)))
   refine congrArg (fun l_=>T.sl true 4 (List.map (Qa true) l_)) ?_
   first
   | (exfalso;omega)
   | (exact (Qp ‹¬Qb l›).symm)
   | (have e:=Qq hI' (by omega);symm;first | exact Qd e fhc4 | exact Qc ‹Qb l› e fhc4)
   | (have e:=Qs hI' hx1 fhc0 fhc2;symm;first | exact Qd e fhc4 | exact Qc ‹Qb l› e fhc4)
   | (have e:=QN hI' hx1 (by omega) fhc3;symm;first | exact Qd e fhc4 | exact Qc ‹Qb l› e fhc4)
   | (exact (Qj (Qr hI' hx1 (by omega) (by rw [fhc3];decide))).symm)
  refine sq (VRun.draw (B:= [[],[],[1],[1,2,0],[0,2,1,3],[3,1,2,0,4],[3,1,2,0,4],[6,4,0,2,1,3,5],[5,3,1,2,0,4,6,7],[7,6,4,0,2,1,3,5,8],[3,1,2,0,4],[4,0,2,1,3,10],[10,11,8,5,3,1,2,0,4,6,7,9],[9,7,6,5,8,11,10,12,3,1,2,0,4],[4,0,2,1,3,12,10,11,8,5,6,7,9,13]]) (by kernel_rfl) (by kernel_rfl) (mD (tN k) Y Y (mD (rd 4 Qa l) Y Y (lD (B.lenR (m:=l.length) (tv (rd 4 Qa l) Y) QD (List.length_map ..)) Y Y (fD (Qev (tv (tN k) Y) (tv (tN l.length) Y)) Y Y (mD (tB (decide (k=l.length))) Y Y ?_))))))
  refine gw (k=l.length) (fun fhg34_2=> ?_) fun fhg34_2=> ?_
  ·refine oD Y Y (dy fhg34_2) Y ?_
   refine oD Y Y (dy fhg34_2) Y (oD Y Y (dy fhg34_2) Y (oD Y Y (dy fhg34_2) Y (oD Y Y (dy fhg34_2) Y (oD Y Y (dy fhg34_2) Y (oD Y Y (dy fhg34_2) Y (oD Y Y (dy fhg34_2) Y (fD (OF.pickT (VEv.tmpB Y (dy fhg34_2)) (VEv.bool true)) Y Y (fD (OF.assign (tv (tB true) Y)) Y Y (VRunD.nil (tn (ct Y ?_)))))))))))
   refine VRun.region (mO (T.os 4 1 0 ((l.map (Qa true)).length)) Y (mO (tN k) Y (lO (OL.loadOn (us:=(Qa false x)) (tv (T.op 0 0) Y) Y ZH Qf (lb Y) Y) (kO (OM.buildSlice (l:= [(T.agg (Qa false x))]) (VEvp.cons (tv (T.agg (Qa false x)) Y) VEvp.nil) Y (by decide) (bc (nofun) bn) (bc ((bc (Y) (bc (Y) (bc (Y) (bc (Y) bn))))) bn) (bc (Y) bn) QD QE (by kernel_rfl) Y (by rw [Qf];decide) Qf (Nat.le_of_ble_eq_true Y)) (cO (B.insert (rows:=(l.map (Qa true))) (r:= [(tI x.Cell),(tS x.Letter),(tI x.Tick),(tI x.Who)]) (rows3:=((l.take k++x::l.drop k).map (Qa true))) (i:=k) Y Y Y (VDst.own (tv (T.os 4 1 0 ((l.map (Qa true)).length)) Y) Y Y) (tv (tN k) Y) Y (VDst.own (tv (T.os 4 2 0 1) Y) Y Y) (by decide) (Y2 (fun _=>rfl) _) (bc (bc Y (bc Y (bc Y (bc Y bn)))) bn) (okeNote.okMap _ _) (bc Y (bc Y (bc Y (bc Y bn)))) (by decide) (by decide) (by first | exact hq1 _ | exact hq2 _ | omega | (simp only [List.length_map];omega) | (simp only [List.length_map,List.length_append,List.length_cons,List.length_nil,List.length_replicate,List.length_set,List.length_drop,List.length_take,QT] at *;omega)) (by first | exact hq1 _ | exact hq2 _ | omega | (simp only [List.length_map];omega) | (simp only [List.length_map,List.length_append,List.length_cons,List.length_nil,List.length_replicate,List.length_set,List.length_drop,List.length_take,QT] at *;omega)) (by rw [List.map_append,List.map_cons,List.map_take,List.map_drop];rfl)) (aO (T.os 4 3 0 (((l.take k++x::l.drop k).map (Qa true)).length)) Y (VRunO.nil (vinB.n (tn (sq (sr ?_)))))))))))
   refine mO (T.os 4 3 0 (((l.take k++x::l.drop k).map (Qa true)).length)) Y (cO (cS (us:= [(rd 4 Qa (l.take k++x::l.drop k))]) (vc (tv (T.os 4 3 0 (((l.take k++x::l.drop k).map (Qa true)).length)) Y) vn) (LendL.cons (Lend.os Y Y (okeNote.fzMap _ _)) ln) (Qx (n+0) (l.take k++x::l.drop k) (by first | exact hq1 _ | exact hq2 _ | assumption | omega)) Y Y) (fO (QV (tv (tB (decide (Qb (l.take k++x::l.drop k)))) Y)) (nt ?_)))
   refine cn (Qb (l.take k++x::l.drop k)) Y (fun fhc4=> ?_) fun fhc4=> ?_
   ·refine sr ?_
    refine mO (rd 4 Qa l) Y (cO (OC.callF (r':=(T.os 4 4 0 ((l.map (Qa true)).length))) (objs:= [(Obj.rows 4 (l.map (Qa true)))]) Y (vc (tv (rd 4 Qa l) Y) vn) (Yd Y) (Qg (n+2) l (by first | exact hq1 _ | exact hq2 _ | assumption | omega)) Y) (aO (T.os 4 4 0 ((l.map (Qa true)).length)) Y (nt (rt (tr ?_)))))
    refine vfin.eq (r':=(T.sl true 4 (l.map (Qa true)))) ?_ (vfin.r (VRes.tmp (t:=(T.os 4 4 0 ((l.map (Qa true)).length))) Y VRes.nil) (Give.os Y Y (okeNote.cleanMap _)))
    refine congrArg (fun l_=>T.sl true 4 (List.map (Qa true) l_)) ?_
    first
    | (exfalso;omega)
    | (exact (Qp ‹¬Qb l›).symm)
    | (have e:=Qq hI' (by omega);symm;first | exact Qd e fhc4 | exact Qc ‹Qb l› e fhc4)
    | (have e:=Qs hI' hx1 fhc0 fhc2;symm;first | exact Qd e fhc4 | exact Qc ‹Qb l› e fhc4)
    | (have e:=QN hI' hx1 (by omega) fhc3;symm;first | exact Qd e fhc4 | exact Qc ‹Qb l› e fhc4)
    | (exact (Qj (Qr hI' hx1 (by omega) (by rw [fhc3];decide))).symm)
   refine sk (tn (sr (mO (T.os 4 3 0 (((l.take k++x::l.drop k).map (Qa true)).length)) Y (aO (T.os 4 3 0 (((l.take k++x::l.drop k).map (Qa true)).length)) Y (nt (rt ?_))))))
   refine vfin.eq (r':=(T.sl true 4 ((l.take k++x::l.drop k).map (Qa true)))) ?_ (vfin.r (VRes.tmp (t:=(T.os 4 3 0 (((l.take k++x::l.drop k).map (Qa true)).length))) Y VRes.nil) (Give.os Y Y (okeNote.cleanMap _)))
   refine congrArg (fun l_=>T.sl true 4 (List.map (Qa true) l_)) ?_
   first
   | (exfalso;omega)
   | (exact (Qp ‹¬Qb l›).symm)
   | (have e:=Qq hI' (by omega);symm;first | exact Qd e fhc4 | exact Qc ‹Qb l› e fhc4)
   | (have e:=Qs hI' hx1 fhc0 fhc2;symm;first | exact Qd e fhc4 | exact Qc ‹Qb l› e fhc4)
   | (have e:=QN hI' hx1 (by omega) fhc3;symm;first | exact Qd e fhc4 | exact Qc ‹Qb l› e fhc4)
   | (exact (Qj (Qr hI' hx1 (by omega) (by rw [fhc3];decide))).symm)
  refine VRunD.free Y (VWant.on Y Y (dz fhg34_2)) Y (OF.move (tv (rd 4 Qa l) Y)) (VRunD.free Y (VWant.on Y Y (dz fhg34_2)) Y (OF.move (tv (tN k) Y)) (VRunD.free Y (VWant.on Y Y (dz fhg34_2)) Y (OF.indexAddrR (row:=(Qa false x1)) (i:=k) (tv (rd 4 Qa l) Y) (tv (tN k) Y) Y (QL _ hx1) QD Qf Q2) (VRunD.free Y (VWant.on Y Y (dz fhg34_2)) Y (B.fieldAddrR (us:=(Qa false x1)) (tv (T.rp (Qa false x1)) Y) (lb Y) QW Y) (VRunD.look Y (VWant.on Y Y (dz fhg34_2)) Y (OL.loadR1 (t:=(tI x1.Cell)) (tv (T.rp (Qa false x1)) Y) Y ZC) (VRunD.free Y (VWant.on Y Y (dz fhg34_2)) Y (OF.fieldAddrO (tv (T.op 0 0) Y) QW) (VRunD.look Y (VWant.on Y Y (dz fhg34_2)) Y (OL.loadO1 (t:=(tI x.Cell)) (tv (T.op 0 0) Y) Y Y ZC) (VRunD.free Y (VWant.on Y Y (dz fhg34_2)) Y (xne (tv (tI x1.Cell) Y) (tv (tI x.Cell) Y)) (fD (OF.pickF (VEv.tmpB Y (dz fhg34_2)) (tv (tB (!(decide (x1.Cell=x.Cell)))) Y)) Y Y (fD (OF.assign (tv (tB (!(decide (x1.Cell=x.Cell)))) Y)) Y Y (VRunD.nil (tn ?_)))))))))))
  refine cn (x1.Cell=x.Cell) Y (fun fhc2=> ?_) fun fhc2=> ?_
  ·refine VRun.region ?_
   refine mO (T.os 4 1 0 ((l.map (Qa true)).length)) Y (mO (tN k) Y (lO (OL.loadOn (us:=(Qa false x)) (tv (T.op 0 0) Y) Y ZH Qf (lb Y) Y) (kO (OM.buildSlice (l:= [(T.agg (Qa false x))]) (VEvp.cons (tv (T.agg (Qa false x)) Y) VEvp.nil) Y (by decide) (bc (nofun) bn) (bc ((bc (Y) (bc (Y) (bc (Y) (bc (Y) bn))))) bn) (bc (Y) bn) QD QE (by kernel_rfl) Y (by rw [Qf];decide) Qf (Nat.le_of_ble_eq_true Y)) (cO (B.insert (rows:=(l.map (Qa true))) (r:= [(tI x.Cell),(tS x.Letter),(tI x.Tick),(tI x.Who)]) (rows3:=((l.take k++x::l.drop k).map (Qa true))) (i:=k) Y Y Y (VDst.own (tv (T.os 4 1 0 ((l.map (Qa true)).length)) Y) Y Y) (tv (tN k) Y) Y (VDst.own (tv (T.os 4 2 0 1) Y) Y Y) (by decide) (Y2 (fun _=>rfl) _) (bc (bc Y (bc Y (bc Y (bc Y bn)))) bn) (okeNote.okMap _ _) (bc Y (bc Y (bc Y (bc Y bn)))) (by decide) (by decide) (by first | exact hq1 _ | exact hq2 _ | omega | (simp only [List.length_map];omega) | (simp only [List.length_map,List.length_append,List.length_cons,List.length_nil,List.length_replicate,List.length_set,List.length_drop,List.length_take,QT] at *;omega)) (by first | exact hq1 _ | exact hq2 _ | omega | (simp only [List.length_map];omega) | (simp only [List.length_map,List.length_append,List.length_cons,List.length_nil,List.length_replicate,List.length_set,List.length_drop,List.length_take,QT] at *;omega)) (by rw [List.map_append,List.map_cons,List.map_take,List.map_drop];rfl)) (aO (T.os 4 3 0 (((l.take k++x::l.drop k).map (Qa true)).length)) Y (VRunO.nil (vinB.n (tn (sq (sr (mO (T.os 4 3 0 (((l.take k++x::l.drop k).map (Qa true)).length)) Y ?_)))))))))))
   refine cO (cS (us:= [(rd 4 Qa (l.take k++x::l.drop k))]) (vc (tv (T.os 4 3 0 (((l.take k++x::l.drop k).map (Qa true)).length)) Y) vn) (LendL.cons (Lend.os Y Y (okeNote.fzMap _ _)) ln) (Qx (n+0) (l.take k++x::l.drop k) (by first | exact hq1 _ | exact hq2 _ | assumption | omega)) Y Y) (fO (QV (tv (tB (decide (Qb (l.take k++x::l.drop k)))) Y)) (nt ?_))
   refine cn (Qb (l.take k++x::l.drop k)) Y (fun fhc4=> ?_) fun fhc4=> ?_
   ·refine sr ?_
    refine mO (rd 4 Qa l) Y (cO (OC.callF (r':=(T.os 4 4 0 ((l.map (Qa true)).length))) (objs:= [(Obj.rows 4 (l.map (Qa true)))]) Y (vc (tv (rd 4 Qa l) Y) vn) (Yd Y) (Qg (n+2) l (by first | exact hq1 _ | exact hq2 _ | assumption | omega)) Y) (aO (T.os 4 4 0 ((l.map (Qa true)).length)) Y (nt (rt (tr ?_)))))
    refine vfin.eq (r':=(T.sl true 4 (l.map (Qa true)))) ?_ (vfin.r (VRes.tmp (t:=(T.os 4 4 0 ((l.map (Qa true)).length))) Y VRes.nil) (Give.os Y Y (okeNote.cleanMap _)))
    refine congrArg (fun l_=>T.sl true 4 (List.map (Qa true) l_)) ?_
    first
    | (exfalso;omega)
    | (exact (Qp ‹¬Qb l›).symm)
    | (have e:=Qq hI' (by omega);symm;first | exact Qd e fhc4 | exact Qc ‹Qb l› e fhc4)
    | (have e:=Qs hI' hx1 fhc0 fhc2;symm;first | exact Qd e fhc4 | exact Qc ‹Qb l› e fhc4)
    | (have e:=QN hI' hx1 (by omega) fhc3;symm;first | exact Qd e fhc4 | exact Qc ‹Qb l› e fhc4)
    | (exact (Qj (Qr hI' hx1 (by omega) (by rw [fhc3];decide))).symm)
   refine sk (tn (sr (mO (T.os 4 3 0 (((l.take k++x::l.drop k).map (Qa true)).length)) Y (aO (T.os 4 3 0 (((l.take k++x::l.drop k).map (Qa true)).length)) Y (nt (rt ?_))))))
   refine vfin.eq (r':=(T.sl true 4 ((l.take k++x::l.drop k).map (Qa true)))) ?_ (vfin.r (VRes.tmp (t:=(T.os 4 3 0 (((l.take k++x::l.drop k).map (Qa true)).length))) Y VRes.nil) (Give.os Y Y (okeNote.cleanMap _)))
   refine congrArg (fun l_=>T.sl true 4 (List.map (Qa true) l_)) ?_
   first
   | (exfalso;omega)
   | (exact (Qp ‹¬Qb l›).symm)
   | (have e:=Qq hI' (by omega);symm;first | exact Qd e fhc4 | exact Qc ‹Qb l› e fhc4)
   | (have e:=Qs hI' hx1 fhc0 fhc2;symm;first | exact Qd e fhc4 | exact Qc ‹Qb l› e fhc4)
   | (have e:=QN hI' hx1 (by omega) fhc3;symm;first | exact Qd e fhc4 | exact Qc ‹Qb l› e fhc4)
   | (exact (Qj (Qr hI' hx1 (by omega) (by rw [fhc3];decide))).symm)
  refine sq (VRun.draw (B:= [[],[],[],[2,1],[1,2,3],[3,2,1,4,0],[0,4,1,2,3,5]]) (by kernel_rfl) (by kernel_rfl) (lD (OL.loadOn (us:=(Qa false x)) (tv (T.op 0 0) Y) Y ZH Qf (lb Y) Y) Y Y (mD (rd 4 Qa l) Y Y (mD (tN k) Y Y (fD (OF.indexAddrR (row:=(Qa false x1)) (i:=k) (tv (rd 4 Qa l) Y) (tv (tN k) Y) Y (QL _ hx1) QD Qf Q2) Y Y (lD (OL.loadRn (us:=(Qa false x1)) (tv (T.rp (Qa false x1)) Y) ZH Qf (lb Y) Y) Y Y (VRunD.quiet (bi:= [3,2,1,4,0]) Y VWant.always Y Y Y bn (cS (vc (tv (T.agg (Qa false x)) Y) (vc (tv (T.agg (Qa false x1)) Y) vn)) (LendL.cons (lg okeNote) (LendL.cons (lg okeNote) ln)) (YS (n+2) x x1) Y Y) (fD (OF.assign (tv (tB (QP x x1)) Y)) Y Y (VRunD.nil (tn ?_))))))))))
  refine VRun.cond (tv (tB (QP x x1)) Y) (fun hc3=> ?_) (fun hc3=> ?_)
  ·have fhc3:(QP x x1)=true:=hc3
   refine VRun.region (mO (T.os 4 1 0 ((l.map (Qa true)).length)) Y (mO (tN k) Y (lO (OL.loadOn (us:=(Qa false x)) (tv (T.op 0 0) Y) Y ZH Qf (lb Y) Y) (fO (B.indexAddrO (i:=k) (tv (T.os 4 1 0 ((l.map (Qa true)).length)) Y) (tv (tN k) Y) Y (by first | exact hq1 _ | exact hq2 _ | omega | (simp only [List.length_map];omega) | (simp only [List.length_map,List.length_append,List.length_cons,List.length_nil,List.length_replicate,List.length_set,List.length_drop,List.length_take,QT] at *;omega)) QD Qf Q2) (cO (B.storeP (us:=(Qa false x)) (rows':=((l.set k x).map (Qa true))) (row:=(Qa true x1)) (tv (T.orp 4 1 k 0) Y) (tv (T.agg (Qa false x)) Y) nofun Y (QL _ hx1) Y (lb Y) Q2 Qf (bc Y (bc Y (bc Y (bc Y bn)))) (by intro r hr t ht;obtain ⟨x,_,rfl⟩:=List.mem_map.1 hr;rw [Y4] at ht;exact ZA (okeNote.pl _ t ht)) (ZX Y)) (VRunO.nil (vinB.n (tn (sq (sr (mO (T.os 4 1 0 ((l.map (Qa true)).length)) Y ?_)))))))))))
   refine cO (cS (us:= [(rd 4 Qa (l.set k x))]) (vc (tv (T.os 4 1 0 ((l.map (Qa true)).length)) Y) vn) (LendL.cons (Lend.os Y (by simp only [List.length_map,Ql,List.length_set]) (okeNote.fzMap _ _)) ln) (Qx (n+0) (l.set k x) (by first | exact hq1 _ | exact hq2 _ | assumption | omega)) Y Y) (fO (QV (tv (tB (decide (Qb (l.set k x)))) Y)) (nt ?_))
   refine cn (Qb (l.set k x)) Y (fun fhc4=> ?_) fun fhc4=> ?_
   ·refine sr ?_
    refine mO (rd 4 Qa l) Y (cO (OC.callF (r':=(T.os 4 2 0 ((l.map (Qa true)).length))) (objs:= [(Obj.rows 4 (l.map (Qa true)))]) Y (vc (tv (rd 4 Qa l) Y) vn) (Yd Y) (Qg (n+2) l (by first | exact hq1 _ | exact hq2 _ | assumption | omega)) Y) (aO (T.os 4 2 0 ((l.map (Qa true)).length)) Y (nt (rt (tr ?_)))))
    refine vfin.eq (r':=(T.sl true 4 (l.map (Qa true)))) ?_ (vfin.r (VRes.tmp (t:=(T.os 4 2 0 ((l.map (Qa true)).length))) Y VRes.nil) (Give.os Y Y (okeNote.cleanMap _)))
    refine congrArg (fun l_=>T.sl true 4 (List.map (Qa true) l_)) ?_
    first
    | (exfalso;omega)
    | (exact (Qp ‹¬Qb l›).symm)
    | (have e:=Qq hI' (by omega);symm;first | exact Qd e fhc4 | exact Qc ‹Qb l› e fhc4)
    | (have e:=Qs hI' hx1 fhc0 fhc2;symm;first | exact Qd e fhc4 | exact Qc ‹Qb l› e fhc4)
    | (have e:=QN hI' hx1 (by omega) fhc3;symm;first | exact Qd e fhc4 | exact Qc ‹Qb l› e fhc4)
    | (exact (Qj (Qr hI' hx1 (by omega) (by rw [fhc3];decide))).symm)
   refine sk (tn (sr (mO (T.os 4 1 0 ((l.map (Qa true)).length)) Y (aO (T.os 4 1 0 ((l.map (Qa true)).length)) Y (nt (rt ?_))))))
   refine vfin.eq (r':=(T.sl true 4 ((l.set k x).map (Qa true)))) ?_ (vfin.r (VRes.tmp (t:=(T.os 4 1 0 ((l.map (Qa true)).length))) Y VRes.nil) (Give.os Y (by simp only [List.length_map,List.length_set]) (okeNote.cleanMap _)))
   refine congrArg (fun l_=>T.sl true 4 (List.map (Qa true) l_)) ?_
   first
   | (exfalso;omega)
   | (exact (Qp ‹¬Qb l›).symm)
   | (have e:=Qq hI' (by omega);symm;first | exact Qd e fhc4 | exact Qc ‹Qb l› e fhc4)
   | (have e:=Qs hI' hx1 fhc0 fhc2;symm;first | exact Qd e fhc4 | exact Qc ‹Qb l› e fhc4)
   | (have e:=QN hI' hx1 (by omega) fhc3;symm;first | exact Qd e fhc4 | exact Qc ‹Qb l› e fhc4)
   | (exact (Qj (Qr hI' hx1 (by omega) (by rw [fhc3];decide))).symm)
  have fhc3:(QP x x1)=false:=hc3
  refine sk (vinB.n (tn (sq (sr (mO (T.os 4 1 0 ((l.map (Qa true)).length)) Y (cO (cS (us:= [(rd 4 Qa l)]) (vc (tv (T.os 4 1 0 ((l.map (Qa true)).length)) Y) vn) (LendL.cons (Lend.os Y Y (okeNote.fzMap _ _)) ln) (Qx (n+0) l (by first | exact hq1 _ | exact hq2 _ | assumption | omega)) Y Y) (fO (QV (tv (tB (decide (Qb l))) Y)) (nt (cg (nz fhc1) Y (sk (tn ?_)))))))))))
  refine sr (mO (T.os 4 1 0 ((l.map (Qa true)).length)) Y (aO (T.os 4 1 0 ((l.map (Qa true)).length)) Y (nt (rt ?_))))
  refine vfin.eq (r':=(T.sl true 4 (l.map (Qa true)))) ?_ (vfin.r (VRes.tmp (t:=(T.os 4 1 0 ((l.map (Qa true)).length))) Y VRes.nil) (Give.os Y Y (okeNote.cleanMap _)))
  refine congrArg (fun l_=>T.sl true 4 (List.map (Qa true) l_)) ?_
  first
  | (exfalso;omega)
  | (exact (Qp ‹¬Qb l›).symm)
  | (have e:=Qq hI' (by omega);symm;first | exact Qd e fhc4 | exact Qc ‹Qb l› e fhc4)
  | (have e:=Qs hI' hx1 fhc0 fhc2;symm;first | exact Qd e fhc4 | exact Qc ‹Qb l› e fhc4)
  | (have e:=QN hI' hx1 (by omega) fhc3;symm;first | exact Qd e fhc4 | exact Qc ‹Qb l› e fhc4)
  | (exact (Qj (Qr hI' hx1 (by omega) (by rw [fhc3];decide))).symm)
 refine oD Y Y (dz fhg13_1) Y (oD Y Y (dz fhg13_1) Y (oD Y Y (dz fhg13_1) Y (oD Y Y (dz fhg13_1) Y (oD Y Y (dz fhg13_1) Y (oD Y Y (dz fhg13_1) Y (oD Y Y (dz fhg13_1) Y (oD Y Y (dz fhg13_1) Y (fD (OF.pickF (VEv.tmpB Y (dz fhg13_1)) (VEv.bool false)) Y Y (VRunD.nil (tn (cf Y ?_)))))))))))
 refine VRun.exit (vthn.e (vthn.e (vinB.e (tn (sq (VRun.block (sr (mO (rd 4 Qa l) Y (cO (cS (vc (tv (rd 4 Qa l) Y) vn) (Yd Y) (Qx (n+0) l (by first | exact hq1 _ | exact hq2 _ | assumption | omega)) Y Y) (fO (QV (tv (tB (decide (Qb l))) Y)) (aO (tB (!(decide (Qb l)))) Y ?_)))))))))))
 refine nt ?_
 refine cn (Qb l) Y (fun fhc1=> ?_) fun fhc1=> ?_
 ·refine sk ?_
  refine vinB.n (tn (sq (sr (mO (T.os 4 1 0 ((l.map (Qa true)).length)) Y (cO (cS (us:= [(rd 4 Qa l)]) (vc (tv (T.os 4 1 0 ((l.map (Qa true)).length)) Y) vn) (LendL.cons (Lend.os Y Y (okeNote.fzMap _ _)) ln) (Qx (n+0) l (by first | exact hq1 _ | exact hq2 _ | assumption | omega)) Y Y) (fO (QV (tv (tB (decide (Qb l))) Y)) (nt (ck (ny fhc1) Y (sr (mO (rd 4 Qa l) Y (cO (OC.callF (r':=(T.os 4 2 0 ((l.map (Qa true)).length))) (objs:= [(Obj.rows 4 (l.map (Qa true)))]) Y (vc (tv (rd 4 Qa l) Y) vn) (Yd Y) (Qg (n+2) l (by first | exact hq1 _ | exact hq2 _ | assumption | omega)) Y) ?_)))))))))))
  refine aO (T.os 4 2 0 ((l.map (Qa true)).length)) Y (nt (rt (tr ?_)))
  refine vfin.eq (r':=(T.sl true 4 (l.map (Qa true)))) ?_ (vfin.r (VRes.tmp (t:=(T.os 4 2 0 ((l.map (Qa true)).length))) Y VRes.nil) (Give.os Y Y (okeNote.cleanMap _)))
  refine congrArg (fun l_=>T.sl true 4 (List.map (Qa true) l_)) ?_
  first
  | (exfalso;omega)
  | (exact (Qp ‹¬Qb l›).symm)
  | (have e:=Qq hI' (by omega);symm;first | exact Qd e fhc4 | exact Qc ‹Qb l› e fhc4)
  | (have e:=Qs hI' hx1 fhc0 fhc2;symm;first | exact Qd e fhc4 | exact Qc ‹Qb l› e fhc4)
  | (have e:=QN hI' hx1 (by omega) fhc3;symm;first | exact Qd e fhc4 | exact Qc ‹Qb l› e fhc4)
  | (exact (Qj (Qr hI' hx1 (by omega) (by rw [fhc3];decide))).symm)
 refine sq (VRun.draw (B:= [[],[],[1],[1,2,0],[0,2,1,3],[3,1,2,0,4],[3,1,2,0,4],[6,4,0,2,1,3,5],[5,3,1,2,0,4,6,7],[7,6,4,0,2,1,3,5,8],[3,1,2,0,4],[4,0,2,1,3,10],[10,11,8,5,3,1,2,0,4,6,7,9],[9,7,6,5,8,11,10,12,3,1,2,0,4],[4,0,2,1,3,12,10,11,8,5,6,7,9,13]]) (by kernel_rfl) (by kernel_rfl) (mD (tN k) Y Y (mD (rd 4 Qa l) Y Y (lD (B.lenR (m:=l.length) (tv (rd 4 Qa l) Y) QD (List.length_map ..)) Y Y (fD (Qev (tv (tN k) Y) (tv (tN l.length) Y)) Y Y (mD (tB (decide (k=l.length))) Y Y ?_))))))
 refine gw (k=l.length) (fun fhg34_3=> ?_) fun fhg34_3=> ?_
 ·refine oD Y Y (dy fhg34_3) Y ?_
  refine oD Y Y (dy fhg34_3) Y (oD Y Y (dy fhg34_3) Y (oD Y Y (dy fhg34_3) Y (oD Y Y (dy fhg34_3) Y (oD Y Y (dy fhg34_3) Y (oD Y Y (dy fhg34_3) Y (oD Y Y (dy fhg34_3) Y (fD (OF.pickT (VEv.tmpB Y (dy fhg34_3)) (VEv.bool true)) Y Y (fD (OF.assign (tv (tB true) Y)) Y Y (VRunD.nil (tn (ct Y ?_)))))))))))
  refine VRun.region (mO (T.os 4 1 0 ((l.map (Qa true)).length)) Y (mO (tN k) Y (lO (OL.loadOn (us:=(Qa false x)) (tv (T.op 0 0) Y) Y ZH Qf (lb Y) Y) (kO (OM.buildSlice (l:= [(T.agg (Qa false x))]) (VEvp.cons (tv (T.agg (Qa false x)) Y) VEvp.nil) Y (by decide) (bc (nofun) bn) (bc ((bc (Y) (bc (Y) (bc (Y) (bc (Y) bn))))) bn) (bc (Y) bn) QD QE (by kernel_rfl) Y (by rw [Qf];decide) Qf (Nat.le_of_ble_eq_true Y)) (cO (B.insert (rows:=(l.map (Qa true))) (r:= [(tI x.Cell),(tS x.Letter),(tI x.Tick),(tI x.Who)]) (rows3:=((l.take k++x::l.drop k).map (Qa true))) (i:=k) Y Y Y (VDst.own (tv (T.os 4 1 0 ((l.map (Qa true)).length)) Y) Y Y) (tv (tN k) Y) Y (VDst.own (tv (T.os 4 2 0 1) Y) Y Y) (by decide) (Y2 (fun _=>rfl) _) (bc (bc Y (bc Y (bc Y (bc Y bn)))) bn) (okeNote.okMap _ _) (bc Y (bc Y (bc Y (bc Y bn)))) (by decide) (by decide) (by first | exact hq1 _ | exact hq2 _ | omega | (simp only [List.length_map];omega) | (simp only [List.length_map,List.length_append,List.length_cons,List.length_nil,List.length_replicate,List.length_set,List.length_drop,List.length_take,QT] at *;omega)) (by first | exact hq1 _ | exact hq2 _ | omega | (simp only [List.length_map];omega) | (simp only [List.length_map,List.length_append,List.length_cons,List.length_nil,List.length_replicate,List.length_set,List.length_drop,List.length_take,QT] at *;omega)) (by rw [List.map_append,List.map_cons,List.map_take,List.map_drop];rfl)) (aO (T.os 4 3 0 (((l.take k++x::l.drop k).map (Qa true)).length)) Y (VRunO.nil (vinB.n (tn (sq (sr ?_)))))))))))
  refine mO (T.os 4 3 0 (((l.take k++x::l.drop k).map (Qa true)).length)) Y (cO (cS (us:= [(rd 4 Qa (l.take k++x::l.drop k))]) (vc (tv (T.os 4 3 0 (((l.take k++x::l.drop k).map (Qa true)).length)) Y) vn) (LendL.cons (Lend.os Y Y (okeNote.fzMap _ _)) ln) (Qx (n+0) (l.take k++x::l.drop k) (by first | exact hq1 _ | exact hq2 _ | assumption | omega)) Y Y) (fO (QV (tv (tB (decide (Qb (l.take k++x::l.drop k)))) Y)) (nt ?_)))
  refine cn (Qb (l.take k++x::l.drop k)) Y (fun fhc4=> ?_) fun fhc4=> ?_
  ·refine sr ?_
   refine mO (rd 4 Qa l) Y (cO (OC.callF (r':=(T.os 4 4 0 ((l.map (Qa true)).length))) (objs:= [(Obj.rows 4 (l.map (Qa true)))]) Y (vc (tv (rd 4 Qa l) Y) vn) (Yd Y) (Qg (n+2) l (by first | exact hq1 _ | exact hq2 _ | assumption | omega)) Y) (aO (T.os 4 4 0 ((l.map (Qa true)).length)) Y (nt (rt (tr ?_)))))
   refine vfin.eq (r':=(T.sl true 4 (l.map (Qa true)))) ?_ (vfin.r (VRes.tmp (t:=(T.os 4 4 0 ((l.map (Qa true)).length))) Y VRes.nil) (Give.os Y Y (okeNote.cleanMap _)))
   refine congrArg (fun l_=>T.sl true 4 (List.map (Qa true) l_)) ?_
   first
   | (exfalso;omega)
   | (exact (Qp ‹¬Qb l›).symm)
   | (have e:=Qq hI' (by omega);symm;first | exact Qd e fhc4 | exact Qc ‹Qb l› e fhc4)
   | (have e:=Qs hI' hx1 fhc0 fhc2;symm;first | exact Qd e fhc4 | exact Qc ‹Qb l› e fhc4)
   | (have e:=QN hI' hx1 (by omega) fhc3;symm;first | exact Qd e fhc4 | exact Qc ‹Qb l› e fhc4)
   | (exact (Qj (Qr hI' hx1 (by omega) (by rw [fhc3];decide))).symm)
  refine sk (tn (sr (mO (T.os 4 3 0 (((l.take k++x::l.drop k).map (Qa true)).length)) Y (aO (T.os 4 3 0 (((l.take k++x::l.drop k).map (Qa true)).length)) Y (nt (rt ?_))))))
  refine vfin.eq (r':=(T.sl true 4 ((l.take k++x::l.drop k).map (Qa true)))) ?_ (vfin.r (VRes.tmp (t:=(T.os 4 3 0 (((l.take k++x::l.drop k).map (Qa true)).length))) Y VRes.nil) (Give.os Y Y (okeNote.cleanMap _)))
  refine congrArg (fun l_=>T.sl true 4 (List.map (Qa true) l_)) ?_
  first
  | (exfalso;omega)
  | (exact (Qp ‹¬Qb l›).symm)
  | (have e:=Qq hI' (by omega);symm;first | exact Qd e fhc4 | exact Qc ‹Qb l› e fhc4)
  | (have e:=Qs hI' hx1 fhc0 fhc2;symm;first | exact Qd e fhc4 | exact Qc ‹Qb l› e fhc4)
  | (have e:=QN hI' hx1 (by omega) fhc3;symm;first | exact Qd e fhc4 | exact Qc ‹Qb l› e fhc4)
  | (exact (Qj (Qr hI' hx1 (by omega) (by rw [fhc3];decide))).symm)
 refine VRunD.free Y (VWant.on Y Y (dz fhg34_3)) Y (OF.move (tv (rd 4 Qa l) Y)) (VRunD.free Y (VWant.on Y Y (dz fhg34_3)) Y (OF.move (tv (tN k) Y)) ?_)
 obtain ⟨x1,hx1⟩:∃x,l[k]? =some x:=⟨_,List.getElem?_eq_getElem (by first | exact hq1 _ | exact hq2 _ | omega)⟩
 refine VRunD.free Y (VWant.on Y Y (dz fhg34_3)) Y (OF.indexAddrR (row:=(Qa false x1)) (i:=k) (tv (rd 4 Qa l) Y) (tv (tN k) Y) Y (QL _ hx1) QD Qf Q2) (VRunD.free Y (VWant.on Y Y (dz fhg34_3)) Y (B.fieldAddrR (us:=(Qa false x1)) (tv (T.rp (Qa false x1)) Y) (lb Y) QW Y) (VRunD.look Y (VWant.on Y Y (dz fhg34_3)) Y (OL.loadR1 (t:=(tI x1.Cell)) (tv (T.rp (Qa false x1)) Y) Y ZC) (VRunD.free Y (VWant.on Y Y (dz fhg34_3)) Y (OF.fieldAddrO (tv (T.op 0 0) Y) QW) (VRunD.look Y (VWant.on Y Y (dz fhg34_3)) Y (OL.loadO1 (t:=(tI x.Cell)) (tv (T.op 0 0) Y) Y Y ZC) (VRunD.free Y (VWant.on Y Y (dz fhg34_3)) Y (xne (tv (tI x1.Cell) Y) (tv (tI x.Cell) Y)) (fD (OF.pickF (VEv.tmpB Y (dz fhg34_3)) (tv (tB (!(decide (x1.Cell=x.Cell)))) Y)) Y Y (fD (OF.assign (tv (tB (!(decide (x1.Cell=x.Cell)))) Y)) Y Y (VRunD.nil (tn ?_)))))))))
 refine cn (x1.Cell=x.Cell) Y (fun fhc2=> ?_) fun fhc2=> ?_
 ·refine VRun.region ?_
  refine mO (T.os 4 1 0 ((l.map (Qa true)).length)) Y (mO (tN k) Y (lO (OL.loadOn (us:=(Qa false x)) (tv (T.op 0 0) Y) Y ZH Qf (lb Y) Y) (kO (OM.buildSlice (l:= [(T.agg (Qa false x))]) (VEvp.cons (tv (T.agg (Qa false x)) Y) VEvp.nil) Y (by decide) (bc (nofun) bn) (bc ((bc (Y) (bc (Y) (bc (Y) (bc (Y) bn))))) bn) (bc (Y) bn) QD QE (by kernel_rfl) Y (by rw [Qf];decide) Qf (Nat.le_of_ble_eq_true Y)) (cO (B.insert (rows:=(l.map (Qa true))) (r:= [(tI x.Cell),(tS x.Letter),(tI x.Tick),(tI x.Who)]) (rows3:=((l.take k++x::l.drop k).map (Qa true))) (i:=k) Y Y Y (VDst.own (tv (T.os 4 1 0 ((l.map (Qa true)).length)) Y) Y Y) (tv (tN k) Y) Y (VDst.own (tv (T.os 4 2 0 1) Y) Y Y) (by decide) (Y2 (fun _=>rfl) _) (bc (bc Y (bc Y (bc Y (bc Y bn)))) bn) (okeNote.okMap _ _) (bc Y (bc Y (bc Y (bc Y bn)))) (by decide) (by decide) (by first | exact hq1 _ | exact hq2 _ | omega | (simp only [List.length_map];omega) | (simp only [List.length_map,List.length_append,List.length_cons,List.length_nil,List.length_replicate,List.length_set,List.length_drop,List.length_take,QT] at *;omega)) (by first | exact hq1 _ | exact hq2 _ | omega | (simp only [List.length_map];omega) | (simp only [List.length_map,List.length_append,List.length_cons,List.length_nil,List.length_replicate,List.length_set,List.length_drop,List.length_take,QT] at *;omega)) (by rw [List.map_append,List.map_cons,List.map_take,List.map_drop];rfl)) (aO (T.os 4 3 0 (((l.take k++x::l.drop k).map (Qa true)).length)) Y (VRunO.nil (vinB.n (tn (sq (sr (mO (T.os 4 3 0 (((l.take k++x::l.drop k).map (Qa true)).length)) Y ?_)))))))))))
  refine cO (cS (us:= [(rd 4 Qa (l.take k++x::l.drop k))]) (vc (tv (T.os 4 3 0 (((l.take k++x::l.drop k).map (Qa true)).length)) Y) vn) (LendL.cons (Lend.os Y Y (okeNote.fzMap _ _)) ln) (Qx (n+0) (l.take k++x::l.drop k) (by first | exact hq1 _ | exact hq2 _ | assumption | omega)) Y Y) (fO (QV (tv (tB (decide (Qb (l.take k++x::l.drop k)))) Y)) (nt ?_))
  refine cn (Qb (l.take k++x::l.drop k)) Y (fun fhc4=> ?_) fun fhc4=> ?_
  ·refine sr ?_
   refine mO (rd 4 Qa l) Y (cO (OC.callF (r':=(T.os 4 4 0 ((l.map (Qa true)).length))) (objs:= [(Obj.rows 4 (l.map (Qa true)))]) Y (vc (tv (rd 4 Qa l) Y) vn) (Yd Y) (Qg (n+2) l (by first | exact hq1 _ | exact hq2 _ | assumption | omega)) Y) (aO (T.os 4 4 0 ((l.map (Qa true)).length)) Y (nt (rt (tr ?_)))))
   refine vfin.eq (r':=(T.sl true 4 (l.map (Qa true)))) ?_ (vfin.r (VRes.tmp (t:=(T.os 4 4 0 ((l.map (Qa true)).length))) Y VRes.nil) (Give.os Y Y (okeNote.cleanMap _)))
   refine congrArg (fun l_=>T.sl true 4 (List.map (Qa true) l_)) ?_
   first
   | (exfalso;omega)
   | (exact (Qp ‹¬Qb l›).symm)
   | (have e:=Qq hI' (by omega);symm;first | exact Qd e fhc4 | exact Qc ‹Qb l› e fhc4)
   | (have e:=Qs hI' hx1 fhc0 fhc2;symm;first | exact Qd e fhc4 | exact Qc ‹Qb l› e fhc4)
   | (have e:=QN hI' hx1 (by omega) fhc3;symm;first | exact Qd e fhc4 | exact Qc ‹Qb l› e fhc4)
   | (exact (Qj (Qr hI' hx1 (by omega) (by rw [fhc3];decide))).symm)
  refine sk (tn (sr (mO (T.os 4 3 0 (((l.take k++x::l.drop k).map (Qa true)).length)) Y (aO (T.os 4 3 0 (((l.take k++x::l.drop k).map (Qa true)).length)) Y (nt (rt ?_))))))
  refine vfin.eq (r':=(T.sl true 4 ((l.take k++x::l.drop k).map (Qa true)))) ?_ (vfin.r (VRes.tmp (t:=(T.os 4 3 0 (((l.take k++x::l.drop k).map (Qa true)).length))) Y VRes.nil) (Give.os Y Y (okeNote.cleanMap _)))
  refine congrArg (fun l_=>T.sl true 4 (List.map (Qa true) l_)) ?_
  first
  | (exfalso;omega)
  | (exact (Qp ‹¬Qb l›).symm)
  | (have e:=Qq hI' (by omega);symm;first | exact Qd e fhc4 | exact Qc ‹Qb l› e fhc4)
  | (have e:=Qs hI' hx1 fhc0 fhc2;symm;first | exact Qd e fhc4 | exact Qc ‹Qb l› e fhc4)
  | (have e:=QN hI' hx1 (by omega) fhc3;symm;first | exact Qd e fhc4 | exact Qc ‹Qb l› e fhc4)
  | (exact (Qj (Qr hI' hx1 (by omega) (by rw [fhc3];decide))).symm)
 refine sq (VRun.draw (B:= [[],[],[],[2,1],[1,2,3],[3,2,1,4,0],[0,4,1,2,3,5]]) (by kernel_rfl) (by kernel_rfl) (lD (OL.loadOn (us:=(Qa false x)) (tv (T.op 0 0) Y) Y ZH Qf (lb Y) Y) Y Y (mD (rd 4 Qa l) Y Y (mD (tN k) Y Y (fD (OF.indexAddrR (row:=(Qa false x1)) (i:=k) (tv (rd 4 Qa l) Y) (tv (tN k) Y) Y (QL _ hx1) QD Qf Q2) Y Y (lD (OL.loadRn (us:=(Qa false x1)) (tv (T.rp (Qa false x1)) Y) ZH Qf (lb Y) Y) Y Y (VRunD.quiet (bi:= [3,2,1,4,0]) Y VWant.always Y Y Y bn (cS (vc (tv (T.agg (Qa false x)) Y) (vc (tv (T.agg (Qa false x1)) Y) vn)) (LendL.cons (lg okeNote) (LendL.cons (lg okeNote) ln)) (YS (n+2) x x1) Y Y) (fD (OF.assign (tv (tB (QP x x1)) Y)) Y Y (VRunD.nil (tn ?_))))))))))
 refine VRun.cond (tv (tB (QP x x1)) Y) (fun hc3=> ?_) (fun hc3=> ?_)
 ·have fhc3:(QP x x1)=true:=hc3
  refine VRun.region (mO (T.os 4 1 0 ((l.map (Qa true)).length)) Y (mO (tN k) Y (lO (OL.loadOn (us:=(Qa false x)) (tv (T.op 0 0) Y) Y ZH Qf (lb Y) Y) (fO (B.indexAddrO (i:=k) (tv (T.os 4 1 0 ((l.map (Qa true)).length)) Y) (tv (tN k) Y) Y (by first | exact hq1 _ | exact hq2 _ | omega | (simp only [List.length_map];omega) | (simp only [List.length_map,List.length_append,List.length_cons,List.length_nil,List.length_replicate,List.length_set,List.length_drop,List.length_take,QT] at *;omega)) QD Qf Q2) (cO (B.storeP (us:=(Qa false x)) (rows':=((l.set k x).map (Qa true))) (row:=(Qa true x1)) (tv (T.orp 4 1 k 0) Y) (tv (T.agg (Qa false x)) Y) nofun Y (QL _ hx1) Y (lb Y) Q2 Qf (bc Y (bc Y (bc Y (bc Y bn)))) (by intro r hr t ht;obtain ⟨x,_,rfl⟩:=List.mem_map.1 hr;rw [Y4] at ht;exact ZA (okeNote.pl _ t ht)) (ZX Y)) (VRunO.nil (vinB.n (tn (sq (sr (mO (T.os 4 1 0 ((l.map (Qa true)).length)) Y ?_)))))))))))
  refine cO (cS (us:= [(rd 4 Qa (l.set k x))]) (vc (tv (T.os 4 1 0 ((l.map (Qa true)).length)) Y) vn) (LendL.cons (Lend.os Y (by simp only [List.length_map,Ql,List.length_set]) (okeNote.fzMap _ _)) ln) (Qx (n+0) (l.set k x) (by first | exact hq1 _ | exact hq2 _ | assumption | omega)) Y Y) (fO (QV (tv (tB (decide (Qb (l.set k x)))) Y)) (nt ?_))
  refine cn (Qb (l.set k x)) Y (fun fhc4=> ?_) fun fhc4=> ?_
  ·refine sr ?_
   refine mO (rd 4 Qa l) Y (cO (OC.callF (r':=(T.os 4 2 0 ((l.map (Qa true)).length))) (objs:= [(Obj.rows 4 (l.map (Qa true)))]) Y (vc (tv (rd 4 Qa l) Y) vn) (Yd Y) (Qg (n+2) l (by first | exact hq1 _ | exact hq2 _ | assumption | omega)) Y) (aO (T.os 4 2 0 ((l.map (Qa true)).length)) Y (nt (rt (tr ?_)))))
   refine vfin.eq (r':=(T.sl true 4 (l.map (Qa true)))) ?_ (vfin.r (VRes.tmp (t:=(T.os 4 2 0 ((l.map (Qa true)).length))) Y VRes.nil) (Give.os Y Y (okeNote.cleanMap _)))
   refine congrArg (fun l_=>T.sl true 4 (List.map (Qa true) l_)) ?_
   first
   | (exfalso;omega)
   | (exact (Qp ‹¬Qb l›).symm)
   | (have e:=Qq hI' (by omega);symm;first | exact Qd e fhc4 | exact Qc ‹Qb l› e fhc4)
   | (have e:=Qs hI' hx1 fhc0 fhc2;symm;first | exact Qd e fhc4 | exact Qc ‹Qb l› e fhc4)
   | (have e:=QN hI' hx1 (by omega) fhc3;symm;first | exact Qd e fhc4 | exact Qc ‹Qb l› e fhc4)
   | (exact (Qj (Qr hI' hx1 (by omega) (by rw [fhc3];decide))).symm)
  refine sk (tn (sr (mO (T.os 4 1 0 ((l.map (Qa true)).length)) Y (aO (T.os 4 1 0 ((l.map (Qa true)).length)) Y (nt (rt ?_))))))
  refine vfin.eq (r':=(T.sl true 4 ((l.set k x).map (Qa true)))) ?_ (vfin.r (VRes.tmp (t:=(T.os 4 1 0 ((l.map (Qa true)).length))) Y VRes.nil) (Give.os Y (by simp only [List.length_map,List.length_set]) (okeNote.cleanMap _)))
  refine congrArg (fun l_=>T.sl true 4 (List.map (Qa true) l_)) ?_
  first
  | (exfalso;omega)
  | (exact (Qp ‹¬Qb l›).symm)
  | (have e:=Qq hI' (by omega);symm;first | exact Qd e fhc4 | exact Qc ‹Qb l› e fhc4)
  | (have e:=Qs hI' hx1 fhc0 fhc2;symm;first | exact Qd e fhc4 | exact Qc ‹Qb l› e fhc4)
  | (have e:=QN hI' hx1 (by omega) fhc3;symm;first | exact Qd e fhc4 | exact Qc ‹Qb l› e fhc4)
  | (exact (Qj (Qr hI' hx1 (by omega) (by rw [fhc3];decide))).symm)
 have fhc3:(QP x x1)=false:=hc3
 refine sk (vinB.n (tn (sq (sr (mO (T.os 4 1 0 ((l.map (Qa true)).length)) Y (cO (cS (us:= [(rd 4 Qa l)]) (vc (tv (T.os 4 1 0 ((l.map (Qa true)).length)) Y) vn) (LendL.cons (Lend.os Y Y (okeNote.fzMap _ _)) ln) (Qx (n+0) l (by first | exact hq1 _ | exact hq2 _ | assumption | omega)) Y Y) (fO (QV (tv (tB (decide (Qb l))) Y)) (nt (cg (nz fhc1) Y (sk (tn ?_)))))))))))
 refine sr (mO (T.os 4 1 0 ((l.map (Qa true)).length)) Y (aO (T.os 4 1 0 ((l.map (Qa true)).length)) Y (nt (rt ?_))))
 refine vfin.eq (r':=(T.sl true 4 (l.map (Qa true)))) ?_ (vfin.r (VRes.tmp (t:=(T.os 4 1 0 ((l.map (Qa true)).length))) Y VRes.nil) (Give.os Y Y (okeNote.cleanMap _)))
 refine congrArg (fun l_=>T.sl true 4 (List.map (Qa true) l_)) ?_
 first
 | (exfalso;omega)
 | (exact (Qp ‹¬Qb l›).symm)
 | (have e:=Qq hI' (by omega);symm;first | exact Qd e fhc4 | exact Qc ‹Qb l› e fhc4)
 | (have e:=Qs hI' hx1 fhc0 fhc2;symm;first | exact Qd e fhc4 | exact Qc ‹Qb l› e fhc4)
 | (have e:=QN hI' hx1 (by omega) fhc3;symm;first | exact Qd e fhc4 | exact Qc ‹Qb l› e fhc4)
 | (exact (Qj (Qr hI' hx1 (by omega) (by rw [fhc3];decide))).symm)
end Go.Proofs.Ytnhblneeekccoaa.AE
