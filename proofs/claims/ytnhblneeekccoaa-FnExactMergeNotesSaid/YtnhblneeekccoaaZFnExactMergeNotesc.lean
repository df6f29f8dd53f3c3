/- A part of what the row of FnExactMergeNotes uses. Conditions: as each theorem states. -/
import Derived.Test.YtnhblneeekccoaaZFnExactMergeNotesb
import Derived.Test.YtnhblneeekccoaaProg
import Derived.KernelRfl
namespace Go.Proofs.Ytnhblneeekccoaa.AE
open Go Go.RowKit
set_option linter.unusedVariables false
set_option linter.unusedSimpArgs false
section
variable {P : Program} {E : QP} {O : Qv} {d : Option Tmp} {ty : TypeId} {ps : String} {af : Array Edge} {g : Option (Nat × Bool)} {x y z : Operand} {nx sz : Nat} {rows : List (List T)} {r : List T} {ks ks2 : List Nat}
theorem Qa3 (rows:List (List T)) (r:List T) (i:Nat):(rows.take i++r::rows.drop i).flatten=(rows.take i).flatten++(r++(rows.drop i).flatten):=by
 rw [List.flatten_append,List.flatten_cons]
theorem OC.insert {f:FuncId} {n i bytes:Nat} {tys:Array TypeId} (hp:YO f=false) (hq:Qcp f=ZK sz bytes) (hbd:ZR P f=true) (hx:VDst sz E O x rows ks) (hy:VEv E y (.int .i64 i)) (hz:VDst sz E O z [r] ks2) (hdis:∀k∈ks,k∉ks2)
  (hsc:scR rows) (hsc2:scR [r]) (hok:∀r∈rows,∀t∈r,ZN t=true) (hok2:∀t∈r,ZN t=true) (hpos:0<sz) (hb:bytes≤128) (hlim:rows.length+1≤QR) (hi:i≤rows.length) :
  OC (QJ P (n+1)) P E O nx ⟨d, .call ⟨.value (.func f),#[x,y,z],tys⟩,ty,ps,af,g⟩ (.os sz nx 0 (rows.take i++r::rows.drop i).length) ((nx,some (.rows sz (rows.take i++r::rows.drop i)))::Qaj (ks++ks2) O) (nx+1) (ks++ks2):=⟨Nat.le_succ _,fun q p h0 σ hf own Ea h hs hu' hF=>by
 obtain ⟨v,h1,hd⟩:=hx p h0 σ hf own nx Ea h hs
 obtain ⟨vi,hi1,hi2⟩:=hy σ hf nx Ea hs.env
 obtain rfl:=V.intInv hi2
 obtain ⟨v2,h2,hd2⟩:=hz p h0 σ hf own nx Ea h hs
 rcases hd2 with ⟨a2,m2,cs2,N2,k2,rfl,hm2,hk2,hkn2,ho2,hh2,hodd2,hlen2,hfit2,hsl2,hnd2,hN2⟩ | ⟨e,_⟩
 rotate_left
 ·cases e
 obtain rfl:N2= []:=hsl2.sc hsc2.flat
 have hr1:r.length=sz:=hlen2 r (by simp)
 rw [List.length_singleton] at *
 rw [Nat.one_mul] at hfit2 hsl2
 rw [List.flatten_cons,List.flatten_nil,List.append_nil] at hsl2
 have hlim2:QR=1099511627776:=rfl
 have hbn:∀n,n≤rows.length+1→2*n*bytes≤281474976710656:=fun n hn=>by
  have e1:2*n*bytes≤2*QR*128:=Nat.mul_le_mul (Nat.mul_le_mul_left _ (Nat.le_trans hn hlim)) hb
  have:2*QR*128=281474976710656:=by decide
  omega
 have htok:h (Qe q)=none:=hF _ (Qn q)
 have h0t:h0.h (Qe q)=none:=by
  cases hh:h0.h (Qe q) with
  | none=>rfl
  | some o =>
   have e1:=hs.base (Qe q) (by rw [hh];simp)
   rw [hh] at e1
   rw [(hs.fro _ _ e1).1] at htok
   cases htok
 have hft:hf (Qe q)=none:=by
  cases hh:hf (Qe q) with
  | none=>rfl
  | some o=>rw [(hs.fro _ _ hh).1] at htok;cases htok
 have hone2:((cs2.drop 0).take sz).all (·.oneCell')=true:=by
  rw [List.drop_zero]
  exact hsl2.ones hok2
 have hg2:a2 % 2=1∧True∧0+sz≤cs2.length∧((cs2.drop 0).take sz).all (·.oneCell')=true∧2*bytes≤281474976710656:=⟨hodd2,trivial,by omega,hone2,by have:=hbn 1 (by omega);omega⟩
 have hcall:∀args,QJ P (n+1) f args h q=ZK sz bytes args h q:=fun args=>by rw [QJ,if_neg (by rw [hp];simp),hq]
 have hax:∀(vx:Value) (w:Value) (h':AH),Q0 Ea x=some vx→ZK sz bytes [vx, .int .i64 i, .slice (some ⟨a2,0,none⟩) 1 m2] h q=some (w,h') →
   Qt (QJ P (n+1)) P q Ea h ⟨d, .call ⟨.value (.func f),#[x,y,z],tys⟩,ty,ps,af,g⟩=some (w,h'):=fun vx w h' hvx hw=>by
  have:=X.calls (P:=P) (p:=q) (h:=h) (E:=Ea) (d:=d) (ty:=ty) (ps:=ps) (af:=af) (g:=g) (ts:=tys) (args:= #[x,y,z]) (l:= [vx, .int .i64 i, .slice (some ⟨a2,0,none⟩) 1 m2]) hbd (by simp [evs,hvx,hi1,h2])
  simp only [Qt,this,hcall,hw]
 have hrl:(rows.take i++r::rows.drop i).length=rows.length+1:=by
  rw [List.length_append,List.length_cons,List.length_take,List.length_drop];omega
 have hlenA:∀(hl:∀r∈rows,r.length=sz),∀r'∈rows.take i++r::rows.drop i,r'.length=sz:=fun hl r' hr'=>by
  rcases List.mem_append.1 hr' with hr' | hr'
  ·exact hl _ (List.mem_of_mem_take hr')
  ·rcases List.mem_cons.1 hr' with rfl | hr'
   ·exact hr1
   ·exact hl _ (List.mem_of_mem_drop hr')
 rcases hd with ⟨a,m,cs,N,k,rfl,hm,hk,hkn,ho,hh,hodd,hlen,hfit,hsl,hnd,hN⟩ | ⟨rfl,hv⟩
 ·obtain rfl:N= []:=hsl.sc hsc.flat
  have hat:a≠Qe q:=fun e=>by rw [e,htok] at hh;cases hh
  have haa:a≠a2:=fun e=>by
   rw [e,ho2] at ho
   exact hdis k hk (by rw [← Option.some.inj ho];exact hk2)
  have hx':=hax _ (.slice (some ⟨Qe q,0,none⟩) (rows.length+1) 1) ((h.upd a none).upd (Qe q) (some (.cells sz (YP cs ((cs2.drop 0).take sz) (i*sz) (rows.length*sz))))) h1 (by
   unfold ZK
   simp only [hh2,hh]
   rw [if_pos hg2,if_neg (show ¬m=0 by omega),if_pos ⟨hodd,haa,trivial,trivial,hfit,hsl.ones (fun t ht=>by
    obtain ⟨r0,hr0,htr⟩:=List.mem_flatten.1 ht
    exact hok r0 hr0 t htr),hbn _ (Nat.le_refl _),by omega,by omega,by omega⟩,Int.toNat_natCast])
  have hiL:i*sz≤rows.length*sz:=Nat.mul_le_mul_right _ hi
  have hfl:rows.flatten=(rows.take i).flatten++(rows.drop i).flatten:=by rw [← List.flatten_append,List.take_append_drop]
  have hfl1:(rows.take i).flatten.length=i*sz:=by
   rw [Zv (fun r' hr'=>hlen r' (List.mem_of_mem_take hr')),List.length_take,Nat.min_eq_left hi]
  have hslA:SL hf h ((rows.take i).flatten++(r++(rows.drop i).flatten)) (YP cs ((cs2.drop 0).take sz) (i*sz) (rows.length*sz)) []:=by
   rw [hfl] at hsl
   obtain ⟨N1,N3,e1,s1,s2⟩:=hsl.split
   obtain ⟨rfl,rfl⟩:=List.append_eq_nil_iff.1 e1.symm
   rw [hfl1,List.take_take,Nat.min_eq_left hiL] at s1
   rw [hfl1] at s2
   have:=s1.append (hsl2.append s2)
   unfold YP
   rw [List.drop_zero]
   simpa using this
  have hcl:=Zt (cs:=cs) (news:=(cs2.drop 0).take sz) hiL hfit
  have hcl2:((cs2.drop 0).take sz).length=sz:=by rw [List.drop_zero,List.length_take];omega
  rw [hcl2] at hcl
  obtain ⟨own',g1,g2⟩:=hs.repl (ks:=ks++ks2) (oa:=some (Qe q)) (N:= [Qe q]) (h':=(h.upd a none).upd (Qe q) (some (.cells sz (YP cs ((cs2.drop 0).take sz) (i*sz) (rows.length*sz))))) (obj:= .rows sz (rows.take i++r::rows.drop i))
   (fun b hb hnk=>by rw [AH.upd_ne _ (fun e=>hb (by rw [e];exact htok)),AH.upd_ne _ (fun e=>hnk k (by simp [hk]) (by rw [e];exact ho))])
   (fun b hb=>by
    unfold AH.upd at hb
    split at hb
    ·rename_i e1
     exact .inr (e1▸hu' _ (Qn q))
    ·split at hb
     ·exact absurd Y hb
     ·exact hs.dom b hb)
   (by simp)
   (fun b hb=>by
    obtain rfl:=List.mem_singleton.1 hb
    exact ⟨hu' _ (Qn q),h0t,by rw [AH.upd_same];simp,hft, .inl htok⟩)
   (by
    refine .rows (AH.upd_same _ _ _) (Yb q) (hlenA hlen) (by rw [hrl,hcl,Nat.add_mul];omega) ?_
    rw [Qa3,List.take_of_length_le (l:=YP cs ((cs2.drop 0).take sz) (i*sz) (rows.length*sz)) (by rw [hrl,hcl,Nat.add_mul];omega)]
    exact hslA.mono (fun _ _ e=>e) (by simp))
  refine ⟨_,_,_,own',hx',?_,JH _,g1,?_,?_,g2⟩
  ·intro b hb
   unfold AH.upd at hb
   split at hb
   ·rename_i e1
    exact .inr (e1▸Qn q)
   ·split at hb
    ·exact absurd Y hb
    ·exact .inl hb
  ·rw [hrl]
   have:=V.os (σ:=fun k=>if k=nx then some (Qe q) else σ k) (hf:=hf) (nx:=nx+1) (a:=Qe q) sz nx 0 (rows.length+1) 1 (by omega) (by simp) (by omega)
   rwa [Nat.zero_mul] at this
  ·intro b hb hnk
   rw [AH.upd_ne _ (fun e=>hb (by rw [e];exact htok)),AH.upd_ne _ (fun e=>hnk k (by simp [hk]) (by rw [e];exact ho))]
 ·obtain rfl:i=0:=by simpa using hi
  have hx':=hax v (.slice (some ⟨Qe q,0,none⟩) 1 1) (h.upd (Qe q) (some (.cells sz ((cs2.drop 0).take sz)))) h1 (by
   unfold ZK
   rcases hv with rfl | ⟨a,o,rfl⟩
   ·simp only [hh2]
    rw [if_pos hg2]
    exact if_pos Y
   ·simp only [hh2]
    rw [if_pos hg2,if_pos trivial]
    exact if_pos ⟨trivial,rfl⟩)
  have hcl2:((cs2.drop 0).take sz).length=sz:=by rw [List.drop_zero,List.length_take];omega
  obtain ⟨own',g1,g2⟩:=hs.repl (ks:=ks++ks2) (oa:=some (Qe q)) (N:= [Qe q]) (h':=h.upd (Qe q) (some (.cells sz ((cs2.drop 0).take sz)))) (obj:= .rows sz [r])
   (fun b hb hnk=>AH.upd_ne _ (fun e=>hb (by rw [e];exact htok)) _)
   (fun b hb=>by
    unfold AH.upd at hb
    split at hb
    ·rename_i e1
     exact .inr (e1▸hu' _ (Qn q))
    ·exact hs.dom b hb)
   (by simp)
   (fun b hb=>by
    obtain rfl:=List.mem_singleton.1 hb
    exact ⟨hu' _ (Qn q),h0t,by rw [AH.upd_same];simp,hft, .inl htok⟩)
   (by
    refine .rows (AH.upd_same _ _ _) (Yb q) (fun r' hr'=>by obtain rfl:=List.mem_singleton.1 hr';exact hr1) (by rw [List.length_singleton,hcl2];omega) ?_
    rw [List.flatten_cons,List.flatten_nil,List.append_nil,List.take_of_length_le (l:=(cs2.drop 0).take sz) (by rw [List.length_singleton,hcl2];omega),List.drop_zero]
    exact hsl2.mono (fun _ _ e=>e) (by simp))
  refine ⟨_,_,_,own',hx',?_,JH _,g1,?_,?_,g2⟩
  ·intro b hb
   unfold AH.upd at hb
   split at hb
   ·rename_i e1
    exact .inr (e1▸Qn q)
   ·exact .inl hb
  ·have:=V.os (σ:=fun k=>if k=nx then some (Qe q) else σ k) (hf:=hf) (nx:=nx+1) (a:=Qe q) sz nx 0 1 1 (by omega) (by simp) (by omega)
   rwa [Nat.zero_mul] at this
  ·intro b hb hnk
   exact AH.upd_ne _ (fun e=>hb (by rw [e];exact htok)) _⟩
theorem B.insert {rows3:List (List T)} {f:FuncId} {n i bytes:Nat} {tys:Array TypeId} {j:Int} (hp:YO f=false) (hq:Qcp f=ZK sz bytes) (hbd:ZR P f=true) (hx:VDst sz E O x rows ks) (hy:VEv E y (.int .i64 j)) (hj:j=i) (hz:VDst sz E O z [r] ks2) (hdis:∀k∈ks,k∉ks2)
  (hsc:scR rows) (hsc2:scR [r]) (hok:∀r∈rows,∀t∈r,ZN t=true) (hok2:∀t∈r,ZN t=true) (hpos:0<sz) (hb:bytes≤128) (hlim:rows.length+1≤QR) (hi:i≤rows.length) (hr:rows.take i++r::rows.drop i=rows3) :
  OC (QJ P (n+1)) P E O nx ⟨d, .call ⟨.value (.func f),#[x,y,z],tys⟩,ty,ps,af,g⟩ (.os sz nx 0 rows3.length) ((nx,some (.rows sz rows3))::Qaj (ks++ks2) O) (nx+1) (ks++ks2):=by
 subst hr hj
 exact OC.insert hp hq hbd hx hy hz hdis hsc hsc2 hok hok2 hpos hb hlim hi
end
structure D.Note where
 Cell:Int
 Letter:ByteArray
 Tick:Int
 Who:Int
def QdZ : AK D.Note:=AK.iso (AK.pair (AK.int .i64) (AK.pair AK.string (AK.pair (AK.int .i64) (AK.int .i64)))) (fun x=>(x.Cell,x.Letter,x.Tick,x.Who))
def QbS (x:D.Note):Prop:=((Lit.int .i64 x.Cell).wf=true)∧(x.Letter.size≤maxLen)∧((Lit.int .i64 x.Tick).wf=true)∧((Lit.int .i64 x.Who).wf=true)
theorem QeH : Yp Try.prog 24 QdZ QbS:=Qbr (QaA (P:=Try.prog) (t:=24) (fun x:D.Note=>(x.Cell,x.Letter,x.Tick,x.Who)) (fun x=>⟨x.1,x.2.1,x.2.2.1,x.2.2.2⟩) (fun _=>rfl) Try.underlying24 (by kernel_rfl) (Yy Y (by kernel_rfl) (Jc (k:= .i64) Try.underlying3) (Yy Y (by kernel_rfl) (QaE Try.underlying9) (Yy Y (by kernel_rfl) (Jc (k:= .i64) Try.underlying3) (QbR Y (by kernel_rfl) (Jc (k:= .i64) Try.underlying3)))))) (fun _ h=>h)
theorem st1 : QC Try.prog 1=some false:=by kernel_rfl
theorem ZE : QC Try.prog 3=some false:=by kernel_rfl
theorem sz3 : Try.prog.cellsOf 3=1:=by kernel_rfl
theorem if3 : (Try.prog.info? 3).isSome=true:=by kernel_rfl
theorem sz5 : Try.prog.cellsOf 5=1:=by kernel_rfl
theorem zo5 : Q7 Try.prog 5=some (.int .u8 0):=by kernel_rfl
theorem st9 : QC Try.prog 9=some false:=by kernel_rfl
theorem sz9 : Try.prog.cellsOf 9=1:=by kernel_rfl
theorem if9 : (Try.prog.info? 9).isSome=true:=by kernel_rfl
theorem QeM : QC Try.prog 24=some true:=by kernel_rfl
theorem QdT : Try.prog.cellsOf 24=4:=by kernel_rfl
theorem QeE : (Try.prog.info? 24).isSome=true:=by kernel_rfl
theorem Zx : QC Try.prog 30=some true:=by kernel_rfl
theorem Qg : Try.prog.cellsOf 30=4:=by kernel_rfl
theorem Q3 : (Try.prog.info? 30).isSome=true:=by kernel_rfl
theorem QF : Q7 Try.prog 30=some (.agg #[.int .i64 0, .string ByteArray.empty, .int .i64 0, .int .i64 0]):=by kernel_rfl
theorem QcK : closedV (.agg #[.int .i64 0, .string ByteArray.empty, .int .i64 0, .int .i64 0])=true:=by kernel_rfl
theorem Qd6 (k o:Nat):Qu Try.prog 24 (.pointer (some ⟨k,o,none⟩)) 0=some (.pointer (some ⟨k,o+0,none⟩)):=by simp [Qu,Try.underlying24,if3,sz3]
theorem Qdb (k o:Nat):Qu Try.prog 24 (.pointer (some ⟨k,o,none⟩)) 1=some (.pointer (some ⟨k,o+1,none⟩)):=by simp [Qu,Try.underlying24,if9,sz9]
theorem Qd8 (k o:Nat):Qu Try.prog 24 (.pointer (some ⟨k,o,none⟩)) 2=some (.pointer (some ⟨k,o+2,none⟩)):=by simp [Qu,Try.underlying24,if3,sz3]
theorem Qd4 (k o:Nat):Qu Try.prog 24 (.pointer (some ⟨k,o,none⟩)) 3=some (.pointer (some ⟨k,o+3,none⟩)):=by simp [Qu,Try.underlying24,if3,sz3]
theorem QY (k o:Nat):Qu Try.prog 30 (.pointer (some ⟨k,o,none⟩)) 0=some (.pointer (some ⟨k,o+0,none⟩)):=by simp [Qu,Try.underlying30,if3,sz3]
theorem Zf (k o:Nat):Qu Try.prog 30 (.pointer (some ⟨k,o,none⟩)) 1=some (.pointer (some ⟨k,o+1,none⟩)):=by simp [Qu,Try.underlying30,if9,sz9]
theorem Zg (k o:Nat):Qu Try.prog 30 (.pointer (some ⟨k,o,none⟩)) 2=some (.pointer (some ⟨k,o+2,none⟩)):=by simp [Qu,Try.underlying30,if3,sz3]
theorem Zi (k o:Nat):Qu Try.prog 30 (.pointer (some ⟨k,o,none⟩)) 3=some (.pointer (some ⟨k,o+3,none⟩)):=by simp [Qu,Try.underlying30,if3,sz3]
theorem follows : Try.prog.follows .mixedOrders=true:=by kernel_rfl
theorem Qcz : Plain Try.prog:=by
 unfold Plain
 kernel_rfl
noncomputable instance : DecidableEq D.Note:=Classical.typeDecidableEq _
def Qa (m:Bool) (x:D.Note):List T:= [.int .i64 x.Cell, .str x.Letter, .int .i64 x.Tick, .int .i64 x.Who]
theorem okeNote : EncOk Qa 4:=⟨fun _ _=>rfl,fun x=>QT (.int _ _) (QT (.str _) (QT (.int _ _) (QT (.int _ _) (Jq)))),fun m x=>by simp only [Qa,fzL,AE.fz],fun m x=>QT Y (QT Y (QT Y (QT Y (Jq)))),fun x=>QT Y (QT Y (QT Y (QT Y (Jq))))⟩
def Qj (x:D.Note):Nat:=ByteArray.size x.Letter
theorem Jg : QeN Qa:=fun _ _=>rfl
theorem Qdn : RK QdZ Qa:=QeF (Qcg Qdl (Qcg QeL (Qcg Qdl Qdl))) (fun _=>rfl)
theorem U3 : Try.prog.underlying 3=some (.int .i64):=Try.underlying3
theorem U5 : Try.prog.underlying 5=some (.int .u8):=Try.underlying5
theorem U9 : Try.prog.underlying 9=some .string:=Try.underlying9
theorem U22 : Try.prog.underlying 22=some (.slice 24):=Try.underlying22
theorem QD : Try.prog.underlying 27=some (.slice 30):=Try.underlying27
theorem U67 : Try.prog.underlying 67=some (.slice 5):=Try.underlying67
set_option maxRecDepth 20000
set_option maxHeartbeats 2000000
theorem Qax (n:Nat) (a:D.Note) (left:Int) (h0:0≤left) (h1:left≤(mx:Int)) (hg:QbS a):Pure (QJ Try.prog (n+1)) 7 [(T.agg (Qa false a)),(tI left)] (tI (YJ (Qj a) left)):=by
 refine Pure.intro (rs:= [ResultVar.tmp 4]) Try.func7 Y Y Y (E0:= [(0,(T.agg (Qa false a))),(1,(tI left))]) Y ?_
 obtain ⟨hlim,hmx,hmax⟩:=ZS
 obtain ⟨hg0,hg1,hg2,hg3⟩:=hg
 refine sr (kO (B.box (ts:=(Qa false a)) (tv (T.agg (Qa false a)) Y) nofun Y) (fO (OF.assign (VEv.int .i64 0)) (nt (sr (mO (tI left) Y (lf (tS a.Letter) Y Qdb Y Y st9 (lO (B.lenS (tv (tS a.Letter) Y) U9) (fO (B.sub (n:=(left - ((a.Letter.size:Nat):Int))) (tv (tI left) Y) (tv (tN a.Letter.size) Y) (by first | rfl | (rw [Z7 (by omega)];omega) | (rw [Z7 (by omega)];done))) (aO (tI (left - ((a.Letter.size:Nat):Int))) Y (nt (sq ?_)))))))))))
 refine sr (mO (tI (left - ((a.Letter.size:Nat):Int))) Y (fO (xls (tv (tI (left - ((a.Letter.size:Nat):Int))) Y) (VEv.int .i64 0)) (nt ?_)))
 refine cd ((left - ((a.Letter.size:Nat):Int))<0) Y (fun fhc0=> ?_) fun fhc0=> ?_
 ·refine sr ?_
  refine fO (OF.assign (VEv.int .i64 (-1))) (nt (rt (tr (vi (n':=(-1)) Y ?_))))
  exact Qbj (by simp only [Qj];omega)
 refine sk (tn (sr (mO (tI (left - ((a.Letter.size:Nat):Int))) Y (aO (tI (left - ((a.Letter.size:Nat):Int))) Y (nt (rt (vi (n':=(left - ((a.Letter.size:Nat):Int))) Y ?_)))))))
 rw [← Qdf (z:=Qj a) (l:=left) (by simp only [Qj];omega)]
 all_goals first | rfl | (simp only [Qj];done) | (simp only [Qj];omega)
theorem YM (n:Nat) (a:List D.Note) (left:Int) (h0:0≤left) (h1:left≤(mx:Int)) (hg:a.length≤maxLen∧∀x∈a,QbS x):Pure (QJ Try.prog (n+2)) 6 [(rd 4 Qa a),(tI left)] (tI (YJ (zL Qj a) left)):=by
 refine Pure.intro (rs:= [ResultVar.tmp 4]) Try.func6 Y Y Y (E0:= [(0,(rd 4 Qa a)),(1,(tI left))]) Y ?_
 obtain ⟨hlim,hmx,hmax⟩:=ZS
 obtain ⟨hg1,hg2⟩:=hg
 refine sr (fO (OF.assign (VEv.int .i64 0)) (nt (sr (mO (tI left) Y (mO (rd 4 Qa a) Y (lO (B.lenR (m:=a.length) (tv (rd 4 Qa a) Y) U22 (List.length_map ..)) (fO (B.sub (n:=(left - ((a.length:Nat):Int))) (tv (tI left) Y) (tv (tN a.length) Y) (by first | exact hg2 _ (List.mem_of_getElem? hx1) | rfl | (rw [Z7 (by omega)];omega) | (rw [Z7 (by omega)];done))) (aO (tI (left - ((a.length:Nat):Int))) Y (nt (sq (sr ?_)))))))))))
 refine mO (tI (left - ((a.length:Nat):Int))) Y (fO (xls (tv (tI (left - ((a.length:Nat):Int))) Y) (VEv.int .i64 0)) (nt ?_))
 refine cd ((left - ((a.length:Nat):Int))<0) Y (fun fhc0=> ?_) fun fhc0=> ?_
 ·refine sr ?_
  refine fO (OF.assign (VEv.int .i64 (-1))) (nt (rt (tr (vi (n':=(-1)) Y ?_))))
  exact SzI.early fhc0
 refine sk (tn (sq (sr (fO (OF.assign (VEv.int .i64 0)) (nt (VRun.block ?_))))))
 refine VRun.loop (A:=Nat×Int) (fun s_=> [(0,(rd 4 Qa a)),(1,(tI s_.2)),(5,(tN s_.1))]) (fun s_=>Jz []) 0 (fun s_=>SzI Qj a left s_.1 s_.2) (fun s_=>a.length - s_.1) ((0,left - (a.length:Int)):Nat×Int) ?_ (Wk.mk (fun k=>k) ?_ ?_ ?_) ?_
 ·exact SzI.start h1 fhc0
 ·exact (b2 (bc ⟨(congrArg (T.int .i64) (show (left - ((a.length:Nat):Int))=(left - (a.length:Int)) from (by first | rfl | omega | (simp;done) | (push_cast;omega)))),rfl⟩ (b2 bn)))
 ·exact bn
 ·exact nd Y
 rintro ⟨i,r⟩ (hI':SzI Qj a left i r)
 show VRun _ _ _ [(0,(rd 4 Qa a)),(1,(tI r)),(5,(tN i))] (Jz []) 0 _
 have hI2:=hI'.1
 have hI3:=hI'.2.1
 have hI4:=hI'.2.2.1
 refine sq (sr (mO (tN i) Y (mO (rd 4 Qa a) Y (lO (B.lenR (m:=a.length) (tv (rd 4 Qa a) Y) U22 (List.length_map ..)) (fO (JG (tv (tN i) Y) (tv (tN a.length) Y)) (nt ?_))))))
 refine cd (i<a.length) Y (fun fhc1=> ?_) fun fhc1=> ?_
 ·refine sk ?_
  refine tn (sq (VRun.block (sr (mO (rd 4 Qa a) Y (mO (tN i) Y ?_)))))
  obtain ⟨x1,hx1⟩:∃x,a[i]? =some x:=⟨_,List.getElem?_eq_getElem (by first | exact hg2 _ (List.mem_of_getElem? hx1) | omega)⟩
  refine fO (OF.indexAddrR (row:=(Qa false x1)) (i:=i) (tv (rd 4 Qa a) Y) (tv (tN i) Y) Y (QK _ hx1) U22 QdT QeE) (lO (OL.loadRn (us:=(Qa false x1)) (tv (T.rp (Qa false x1)) Y) QeM QdT (lb Y) Y) (mO (tI r) Y (cO (cS (vc (tv (T.agg (Qa false x1)) Y) (vc (tv (tI r) Y) vn)) (LendL.cons (lg okeNote) (lp Y ln)) (Qax (n+0) x1 r (by first | exact hg2 _ (List.mem_of_getElem? hx1) | assumption | omega) (by first | exact hg2 _ (List.mem_of_getElem? hx1) | assumption | omega) (by first | exact hg2 _ (List.mem_of_getElem? hx1) | assumption | omega)) Y Y) (aO (tI (YJ (Qj x1) r)) Y (nt (sr (mO (tI (YJ (Qj x1) r)) Y (fO (xls (tv (tI (YJ (Qj x1) r)) Y) (VEv.int .i64 0)) (nt ?_)))))))))
  refine cd (YJ (Qj x1) r<0) Y (fun fhc2=> ?_) fun fhc2=> ?_
  ·refine sr ?_
   refine fO (OF.assign (VEv.int .i64 (-1))) (nt (rt (vinB.r (tr (tr (vinB.r (tr (vi (n':=(-1)) Y ?_))))))))
   exact hI'.bad hx1 fhc2
  refine sk (vinB.n (tn (VRun.region (mO (tN i) Y (fO (ZQ (tv (tN i) Y) (VEv.int .i64 1) (by first | exact hg2 _ (List.mem_of_getElem? hx1) | omega)) (aO (tN (i+1)) Y (VRunO.nil (tn ?_))))))))
  refine ⟨((i+1,YJ (Qj x1) r):Nat×Int),?_,?_,Wk.mk (fun k=>k) ?_ ?_ ?_⟩
  ·exact hI'.next hx1 fhc2
  ·first | omega | (simp only [];omega) | (show _<_;omega) | (simp;omega)
  ·exact (b2 (b2 (b2 bn)))
  ·exact bn
  ·exact nd Y
 refine VRun.exit (vthn.e (vthn.e (vinB.e (tn (sr (mO (tI r) Y (aO (tI r) Y (nt (rt (vi (n':=r) Y ?_))))))))))
 exact hI'.done fhc1
theorem QaG (n:Nat) (a:D.Note):Pure (QJ Try.prog (n+1)) 10 [(T.agg (Qa false a))] (T.agg (Qa true a)):=by
 refine Pure.intro (rs:= [ResultVar.cell 2 30]) Try.func10 Y Y Y (E0:= [(0,(T.agg (Qa false a)))]) Y ?_
 obtain ⟨hlim,hmx,hmax⟩:=ZS
 refine sr (kO (B.box (ts:=(Qa false a)) (tv (T.agg (Qa false a)) Y) nofun Y) (kO (B.alloc (t:=(T.agg [(tN 0),(tS ByteArray.empty),(tN 0),(tN 0)])) (ts:= [(tN 0),(tS ByteArray.empty),(tN 0),(tN 0)]) QF QcK nofun (fun _=> .agg _ _ Y (Qa0 (RL.cons (.int _ _) (RL.cons (.str _) (RL.cons (.int _ _) (RL.cons (.int _ _) (RL.nil _))))))) Y) (nt (sr (kO (B.alloc (t:=(T.agg [(tN 0),(tS ByteArray.empty),(tN 0),(tN 0)])) (ts:= [(tN 0),(tS ByteArray.empty),(tN 0),(tN 0)]) QF QcK nofun (fun _=> .agg _ _ Y (Qa0 (RL.cons (.int _ _) (RL.cons (.str _) (RL.cons (.int _ _) (RL.cons (.int _ _) (RL.nil _))))))) Y) (nt (sr (lf (tI a.Cell) Y Qd6 Y Y ZE (fO (OF.fieldAddrO (tv (T.op 2 0) Y) QY) (cO (B.storeO (us:= [(tI a.Cell)]) (ws:= [(tI a.Cell),(tS ByteArray.empty),(tN 0),(tN 0)]) (tv (T.op 2 0) Y) (tv (tI a.Cell) Y) nofun Y Y (lb Y) if3 sz3 (bc Y bn) Y) (nt ?_)))))))))))
 refine sr (lf (tS a.Letter) Y Qdb Y Y st9 (fO (OF.fieldAddrO (tv (T.op 2 0) Y) Zf) (cO (B.storeO (us:= [(tS a.Letter)]) (ws:= [(tI a.Cell),(tS a.Letter),(tN 0),(tN 0)]) (tv (T.op 2 1) Y) (tv (tS a.Letter) Y) nofun Y Y (lb Y) if9 sz9 (bc Y bn) Y) (nt (sr (lf (tI a.Tick) Y Qd8 Y Y ZE (fO (OF.fieldAddrO (tv (T.op 2 0) Y) Zg) (cO (B.storeO (us:= [(tI a.Tick)]) (ws:= [(tI a.Cell),(tS a.Letter),(tI a.Tick),(tN 0)]) (tv (T.op 2 2) Y) (tv (tI a.Tick) Y) nofun Y Y (lb Y) if3 sz3 (bc Y bn) Y) (nt (sr (lf (tI a.Who) Y Qd4 Y Y ZE ?_)))))))))))
 refine fO (OF.fieldAddrO (tv (T.op 2 0) Y) Zi) (cO (B.storeO (us:= [(tI a.Who)]) (ws:= [(tI a.Cell),(tS a.Letter),(tI a.Tick),(tI a.Who)]) (tv (T.op 2 3) Y) (tv (tI a.Who) Y) nofun Y Y (lb Y) if3 sz3 (bc Y bn) Y) (nt (sr (lO (OL.loadOn (us:=(Qa false a)) (tv (T.op 2 0) Y) Y Zx Qg (lb Y) Y) (cO (B.storeW (us:=(Qa false a)) (tv (T.op 1 0) Y) (tv (T.agg (Qa false a)) Y) nofun Y Y Y Q3 Qg (bc Y (bc Y (bc Y (bc Y bn))))) (nt (rt ?_)))))))
 refine vfin.eq (r':=(T.agg (Qa false a))) ?_ (vfin.r (VRes.celln (ws:=(Qa false a)) Y Y Zx Qg (lb Y) Y VRes.nil) (Give.agg (GiveL.cons (Give.int _ _) (GiveL.cons (Give.str _) (GiveL.cons (Give.int _ _) (GiveL.cons (Give.int _ _) GiveL.nil (by decide)) (by decide)) (by decide)) (by decide))))
 first | rfl | (exact ZH (by omega)) | (symm;rw [decide_eq_false_iff_not];omega) | (symm;rw [decide_eq_true_eq];omega) | (simp_all;done)
theorem QW (n:Nat) (a:List D.Note) (ha:a.length≤mx):Pure (QJ Try.prog (n+2)) 9 [(rd 4 Qa a)] (T.sl true 4 (a.map (Qa true))):=by
 refine Pure.intro (rs:= [ResultVar.tmp 2]) Try.func9 Y Y Y (E0:= [(0,(rd 4 Qa a))]) Y ?_
 obtain ⟨hlim,hmx,hmax⟩:=ZS
 refine sr (fO (OF.assign VEv.nils) (nt (sr (mO (rd 4 Qa a) Y (lO (B.lenR (m:=a.length) (tv (rd 4 Qa a) Y) U22 (List.length_map ..)) (kO (B.makeZ (n:=a.length) (m:=((List.replicate a.length (D.Note.mk 0 ByteArray.empty 0 0)).map (Qa true)).length) (rows:=((List.replicate a.length (D.Note.mk 0 ByteArray.empty 0 0)).map (Qa true))) (zr:=(Qa true (D.Note.mk 0 ByteArray.empty 0 0))) (tv (tN a.length) Y) (tv (tN a.length) Y) Y QD QF QcK Y (by rw [Qg];decide) (by first | omega | (simp only [List.length_map];omega) | (simp only [List.length_map,List.length_append,List.length_cons,List.length_nil,List.length_replicate,List.length_set,List.length_drop,List.length_take,QR] at *;omega)) (of_decide_eq_true (by kernel_rfl)) (Z0.int (Z0.str (Z0.int (Z0.int Z0.nil)))) Qg (List.map_replicate ..).symm (by rw [List.length_map,List.length_replicate])) (aO (T.os 4 0 0 (((List.replicate a.length (D.Note.mk 0 ByteArray.empty 0 0)).map (Qa true)).length)) Y (nt (sq (sr (fO (OF.assign (VEv.int .i64 0)) ?_)))))))))))
 refine nt (VRun.block ?_)
 have he1:(List.replicate a.length (D.Note.mk 0 ByteArray.empty 0 0))=(a.take 0++List.replicate (a.length - 0) (D.Note.mk 0 ByteArray.empty 0 0)):=by first | rfl | (exact QaM hx1) | (simp;done) | omega
 refine VRun.loop (A:=Nat) (fun s_=> [(0,(rd 4 Qa a)),(2,T.nils),(3,(T.os 4 0 0 (((a.take s_++List.replicate (a.length - s_) (D.Note.mk 0 ByteArray.empty 0 0)).map (Qa true)).length))),(4,(tN s_))]) (fun s_=>Jz [(0,(Obj.rows 4 ((a.take s_++List.replicate (a.length - s_) (D.Note.mk 0 ByteArray.empty 0 0)).map (Qa true))))]) 1 (fun s_=>s_≤a.length) (fun s_=>a.length - s_) (0:Nat) ?_ (Wk.mk (fun k=>k) ?_ ?_ ?_) ?_
 ·first | trivial | (simp;done) | omega | (constructor<;>simp)
 ·exact (b2 (b2 (bc ⟨(congrArg (fun l_=>T.os 4 0 0 (List.map (Qa true) l_).length) he1),rfl⟩ (b2 bn))))
 ·exact (bc ⟨(congrArg (fun l_=>some (Obj.rows 4 (List.map (Qa true) l_))) he1),(lb Y),rfl⟩ bn)
 ·exact nd Y
 rintro i (hI':i≤a.length)
 show VRun _ _ _ [(0,(rd 4 Qa a)),(2,T.nils),(3,(T.os 4 0 0 (((a.take i++List.replicate (a.length - i) (D.Note.mk 0 ByteArray.empty 0 0)).map (Qa true)).length))),(4,(tN i))] (Jz [(0,(Obj.rows 4 ((a.take i++List.replicate (a.length - i) (D.Note.mk 0 ByteArray.empty 0 0)).map (Qa true))))]) 1 _
 have hfl:=QdJ (w:=(D.Note.mk 0 ByteArray.empty 0 0)) hI'
 refine sq (sr (mO (tN i) Y (mO (rd 4 Qa a) Y (lO (B.lenR (m:=a.length) (tv (rd 4 Qa a) Y) U22 (List.length_map ..)) (fO (JG (tv (tN i) Y) (tv (tN a.length) Y)) (nt ?_))))))
 refine cd (i<a.length) Y (fun fhc0=> ?_) fun fhc0=> ?_
 ·refine sk ?_
  refine tn (sq (VRun.block (VRun.region (mO (T.os 4 0 0 (((a.take i++List.replicate (a.length - i) (D.Note.mk 0 ByteArray.empty 0 0)).map (Qa true)).length)) Y (mO (tN i) Y (mO (rd 4 Qa a) Y (mO (tN i) Y ?_)))))))
  obtain ⟨x1,hx1⟩:∃x,a[i]? =some x:=⟨_,List.getElem?_eq_getElem (by omega)⟩
  refine fO (OF.indexAddrR (row:=(Qa false x1)) (i:=i) (tv (rd 4 Qa a) Y) (tv (tN i) Y) Y (QK _ hx1) U22 QdT QeE) (lO (OL.loadRn (us:=(Qa false x1)) (tv (T.rp (Qa false x1)) Y) QeM QdT (lb Y) Y) (cO (cS (vc (tv (T.agg (Qa false x1)) Y) vn) (LendL.cons (lg okeNote) ln) (QaG (n+0) x1) Y Y) ?_))
  obtain ⟨x2,hx2⟩:∃x,(a.take i++List.replicate (a.length - i) (D.Note.mk 0 ByteArray.empty 0 0))[i]? =some x:=⟨_,List.getElem?_eq_getElem (by first | omega | (simp only [List.length_map];omega) | (simp only [List.length_map,List.length_append,List.length_cons,List.length_nil,List.length_replicate,List.length_set,List.length_drop,List.length_take,QR] at *;omega))⟩
  refine fO (B.indexAddrO (i:=i) (tv (T.os 4 0 0 (((a.take i++List.replicate (a.length - i) (D.Note.mk 0 ByteArray.empty 0 0)).map (Qa true)).length)) Y) (tv (tN i) Y) Y (by first | omega | (simp only [List.length_map];omega) | (simp only [List.length_map,List.length_append,List.length_cons,List.length_nil,List.length_replicate,List.length_set,List.length_drop,List.length_take,QR] at *;omega)) QD Qg Q3) (cO (B.storeP (us:=(Qa true x1)) (rows':=(((a.take i++List.replicate (a.length - i) (D.Note.mk 0 ByteArray.empty 0 0)).set i x1).map (Qa true))) (row:=(Qa true x2)) (tv (T.orp 4 0 i 0) Y) (tv (T.agg (Qa true x1)) Y) nofun Y (QK _ hx2) Y (lb Y) Q3 Qg (bc Y (bc Y (bc Y (bc Y bn)))) (by intro r hr t ht;obtain ⟨x,_,rfl⟩:=List.mem_map.1 hr;rw [Jg] at ht;exact ZA (okeNote.pl _ t ht)) (Z6 Y)) (VRunO.nil (vinB.n (tn (VRun.region (mO (tN i) Y (fO (ZQ (tv (tN i) Y) (VEv.int .i64 1) (by omega)) (aO (tN (i+1)) Y (VRunO.nil (tn ?_))))))))))
  have he2:((a.take i++List.replicate (a.length - i) (D.Note.mk 0 ByteArray.empty 0 0)).set i x1)=(a.take (i+1)++List.replicate (a.length - (i+1)) (D.Note.mk 0 ByteArray.empty 0 0)):=by first | rfl | (exact QaM hx1) | (simp;done) | omega
  refine ⟨(i+1:Nat),?_,?_,Wk.mk (fun k=>k) ?_ ?_ ?_⟩
  ·first | trivial | omega | (simp;done) | exact ⟨by omega,hI'.2⟩
  ·first | omega | (simp only [];omega) | (show _<_;omega) | (simp;omega)
  ·exact (b2 (b2 (bc ⟨(congrArg (fun n_=>T.os 4 0 0 n_) (show ((a.take i++List.replicate (a.length - i) (D.Note.mk 0 ByteArray.empty 0 0)).map (Qa true)).length=((a.take (i+1)++List.replicate (a.length - (i+1)) (D.Note.mk 0 ByteArray.empty 0 0)).map (Qa true)).length from (by first | rfl | (simp only [List.length_map];omega) | (simp only [List.length_map,List.length_set,List.length_append,List.length_take,List.length_replicate,List.length_cons,List.length_nil];omega)))),rfl⟩ (b2 bn))))
  ·exact (bc ⟨(congrArg (fun l_=>some (Obj.rows 4 (List.map (Qa true) l_))) he2),(lb Y),rfl⟩ bn)
  ·exact nd Y
 refine VRun.exit (vthn.e (vthn.e (vinB.e (tn (sr (mO (T.os 4 0 0 (((a.take i++List.replicate (a.length - i) (D.Note.mk 0 ByteArray.empty 0 0)).map (Qa true)).length)) Y (aO (T.os 4 0 0 (((a.take i++List.replicate (a.length - i) (D.Note.mk 0 ByteArray.empty 0 0)).map (Qa true)).length)) Y (nt (rt ?_)))))))))
 refine vfin.eq (r':=(T.sl true 4 ((a.take i++List.replicate (a.length - i) (D.Note.mk 0 ByteArray.empty 0 0)).map (Qa true)))) ?_ (vfin.r (VRes.tmp (t:=(T.os 4 0 0 (((a.take i++List.replicate (a.length - i) (D.Note.mk 0 ByteArray.empty 0 0)).map (Qa true)).length))) Y VRes.nil) (Give.os Y Y (okeNote.cleanMap _)))
 refine congrArg (fun l_=>T.sl true 4 (List.map (Qa true) l_)) ?_
 exact QcC fhc0
theorem QaD (n:Nat) (a:D.Note) (b:D.Note):Pure (QJ Try.prog (n+1)) 34 [(T.agg (Qa false a)),(T.agg (Qa false b))] (tB (decide (a=b))):=by
 refine Pure.intro (rs:= [ResultVar.tmp 4]) Try.func34 Y Y Y (E0:= [(0,(T.agg (Qa false a))),(1,(T.agg (Qa false b)))]) Y ?_
 obtain ⟨hlim,hmx,hmax⟩:=ZS
 refine sr (kO (B.box (ts:=(Qa false a)) (tv (T.agg (Qa false a)) Y) nofun Y) (kO (B.box (ts:=(Qa false b)) (tv (T.agg (Qa false b)) Y) nofun Y) (fO (OF.assign (VEv.bool false)) (nt (sq (sr (lf (tI a.Cell) Y QY Y Y ZE (lf (tI b.Cell) Y QY Y Y ZE (fO (xne (tv (tI a.Cell) Y) (tv (tI b.Cell) Y)) (nt ?_))))))))))
 refine cn (a.Cell=b.Cell) Y (fun fhc0=> ?_) fun fhc0=> ?_
 ·refine sr ?_
  refine fO (OF.assign (VEv.bool false)) (nt (rt (tr (vb (b':=false) Y ?_))))
  obtain ⟨a0,a1,a2,a3⟩:=a
  obtain ⟨b0,b1,b2,b3⟩:=b
  simp_all
 refine sk (tn (sq (sr (lf (tS a.Letter) Y Zf Y Y st9 (lf (tS b.Letter) Y Zf Y Y st9 (fO (B.sneq (c:=(!(decide (a.Letter=b.Letter)))) (tv (tS a.Letter) Y) (tv (tS b.Letter) Y) Y) (nt ?_)))))))
 refine cn (a.Letter=b.Letter) Y (fun fhc1=> ?_) fun fhc1=> ?_
 ·refine sr ?_
  refine fO (OF.assign (VEv.bool false)) (nt (rt (tr (vb (b':=false) Y ?_))))
  obtain ⟨a0,a1,a2,a3⟩:=a
  obtain ⟨b0,b1,b2,b3⟩:=b
  simp_all
 refine sk (tn (sq (sr (lf (tI a.Tick) Y Zg Y Y ZE (lf (tI b.Tick) Y Zg Y Y ZE (fO (xne (tv (tI a.Tick) Y) (tv (tI b.Tick) Y)) (nt ?_)))))))
 refine cn (a.Tick=b.Tick) Y (fun fhc2=> ?_) fun fhc2=> ?_
 ·refine sr ?_
  refine fO (OF.assign (VEv.bool false)) (nt (rt (tr (vb (b':=false) Y ?_))))
  obtain ⟨a0,a1,a2,a3⟩:=a
  obtain ⟨b0,b1,b2,b3⟩:=b
  simp_all
 refine sk (tn (sq (sr (lf (tI a.Who) Y Zi Y Y ZE (lf (tI b.Who) Y Zi Y Y ZE (fO (xne (tv (tI a.Who) Y) (tv (tI b.Who) Y)) (nt ?_)))))))
 refine cn (a.Who=b.Who) Y (fun fhc3=> ?_) fun fhc3=> ?_
 ·refine sr ?_
  refine fO (OF.assign (VEv.bool false)) (nt (rt (tr (vb (b':=false) Y ?_))))
  obtain ⟨a0,a1,a2,a3⟩:=a
  obtain ⟨b0,b1,b2,b3⟩:=b
  simp_all
 refine sk (tn (sr (fO (OF.assign (VEv.bool true)) (nt (rt (vb (b':=true) Y ?_))))))
 obtain ⟨a0,a1,a2,a3⟩:=a
 obtain ⟨b0,b1,b2,b3⟩:=b
 simp_all
theorem Zh (n:Nat) (a:List D.Note) (b:List D.Note) (hla:a.length≤mx) (hlb:b.length≤mx):Pure (QJ Try.prog (n+2)) 12 [(rd 4 Qa a),(rd 4 Qa b)] (tB (decide (a=b))):=by
 refine Pure.intro (rs:= [ResultVar.tmp 4]) Try.func12 Y Y Y (E0:= [(0,(rd 4 Qa a)),(1,(rd 4 Qa b))]) Y ?_
 obtain ⟨hlim,hmx,hmax⟩:=ZS
 refine sr (fO (OF.assign (VEv.bool false)) (nt (sq (sr (mO (rd 4 Qa a) Y (lO (B.lenR (m:=a.length) (tv (rd 4 Qa a) Y) QD (List.length_map ..)) (mO (rd 4 Qa b) Y (lO (B.lenR (m:=b.length) (tv (rd 4 Qa b) Y) QD (List.length_map ..)) (fO (Qee (tv (tN a.length) Y) (tv (tN b.length) Y)) (nt ?_))))))))))
 refine cn (a.length=b.length) Y (fun fhc0=> ?_) fun fhc0=> ?_
 ·refine sr ?_
  refine fO (OF.assign (VEv.bool false)) (nt (rt (tr (vb (b':=false) Y ?_))))
  symm;rw [decide_eq_false_iff_not];rintro rfl;exact fhc0 Y
 refine sk (tn (sq (sr (fO (OF.assign (VEv.int .i64 0)) (nt (VRun.block ?_))))))
 refine VRun.loop (A:=Nat) (fun s_=> [(0,(rd 4 Qa a)),(1,(rd 4 Qa b)),(5,(tN s_))]) (fun s_=>Jz []) 0 (fun s_=>s_≤a.length∧∀j,j<s_→a[j]? =b[j]?) (fun s_=>a.length - s_) (0:Nat) ?_ (Wk.mk (fun k=>k) ?_ ?_ ?_) ?_
 ·first | trivial | (simp;done) | omega | (constructor<;>simp)
 ·exact (b2 (b2 (b2 bn)))
 ·exact bn
 ·exact nd Y
 rintro i (hI':i≤a.length∧∀j,j<i→a[j]? =b[j]?)
 show VRun _ _ _ [(0,(rd 4 Qa a)),(1,(rd 4 Qa b)),(5,(tN i))] (Jz []) 0 _
 refine sq (sr (mO (tN i) Y (mO (rd 4 Qa a) Y (lO (B.lenR (m:=a.length) (tv (rd 4 Qa a) Y) QD (List.length_map ..)) (fO (JG (tv (tN i) Y) (tv (tN a.length) Y)) (nt ?_))))))
 refine cd (i<a.length) Y (fun fhc1=> ?_) fun fhc1=> ?_
 ·refine sk ?_
  refine tn (sq (VRun.block (sq (VRun.draw (B:= [[],[],[1,0],[0,1,2],[],[],[5,4],[4,5,6],[6,5,4,7,2,1,0,3],[3,0,1,2,7,4,5,6,8]]) (by kernel_rfl) (by kernel_rfl) (mD (rd 4 Qa a) Y Y (mD (tN i) Y Y ?_))))))
  obtain ⟨x1,hx1⟩:∃x,a[i]? =some x:=⟨_,List.getElem?_eq_getElem (by omega)⟩
  refine fD (OF.indexAddrR (row:=(Qa false x1)) (i:=i) (tv (rd 4 Qa a) Y) (tv (tN i) Y) Y (QK _ hx1) QD Qg Q3) Y Y (lD (OL.loadRn (us:=(Qa false x1)) (tv (T.rp (Qa false x1)) Y) Zx Qg (lb Y) Y) Y Y (mD (rd 4 Qa b) Y Y (mD (tN i) Y Y ?_)))
  obtain ⟨x2,hx2⟩:∃x,b[i]? =some x:=⟨_,List.getElem?_eq_getElem (by omega)⟩
  refine fD (OF.indexAddrR (row:=(Qa false x2)) (i:=i) (tv (rd 4 Qa b) Y) (tv (tN i) Y) Y (QK _ hx2) QD Qg Q3) Y Y (lD (OL.loadRn (us:=(Qa false x2)) (tv (T.rp (Qa false x2)) Y) Zx Qg (lb Y) Y) Y Y (VRunD.quiet (bi:= [6,5,4,7,2,1,0,3]) Y VWant.always Y Y Y bn (cS (vc (tv (T.agg (Qa false x1)) Y) (vc (tv (T.agg (Qa false x2)) Y) vn)) (LendL.cons (lg okeNote) (LendL.cons (lg okeNote) ln)) (QaD (n+0) x1 x2) Y Y) (fD (QU (tv (tB (decide (x1=x2))) Y)) Y Y (VRunD.nil (tn ?_)))))
  refine cn (x1=x2) Y (fun fhc2=> ?_) fun fhc2=> ?_
  ·refine sr ?_
   refine fO (OF.assign (VEv.bool false)) (nt (rt (vinB.r (tr (tr (vinB.r (tr (vb (b':=false) Y ?_))))))))
   symm;rw [decide_eq_false_iff_not];exact QcS hx1 hx2 fhc2
  refine sk (vinB.n (tn (VRun.region (mO (tN i) Y (fO (ZQ (tv (tN i) Y) (VEv.int .i64 1) (by omega)) (aO (tN (i+1)) Y (VRunO.nil (tn ?_))))))))
  refine ⟨(i+1:Nat),?_,?_,Wk.mk (fun k=>k) ?_ ?_ ?_⟩
  ·exact Qb3 hI' hx1 hx2 fhc2
  ·first | omega | (simp only [];omega) | (show _<_;omega) | (simp;omega)
  ·exact (b2 (b2 (b2 bn)))
  ·exact bn
  ·exact nd Y
 refine VRun.exit (vthn.e (vthn.e (vinB.e (tn (sr (fO (OF.assign (VEv.bool true)) (nt (rt (vb (b':=true) Y ?_)))))))))
 symm;rw [decide_eq_true_eq];exact QcR hI' fhc0 fhc1
noncomputable section
theorem Yd {ok:Nat→Prop} {i n:Nat} (h:i≤n∧∀j,j<i→ok j) (hi:i<n) (hk:ok i):i+1≤n∧∀j,j<i+1→ok j:=by
 refine ⟨hi,fun j hj=> ?_⟩
 rcases Nat.lt_or_ge j i with h1 | h1
 ·exact h.2 j h1
 ·obtain rfl:j=i:=by omega
  exact hk
theorem QX {ok:Nat→Prop} {i n:Nat} (h:i≤n∧∀j,j<i→ok j) (hi:¬i<n):∀j,j<n→ok j:=fun j hj=>h.2 j (by omega)
theorem Qm {α:Type} {l:List α} {i:Nat} {x y:α} (hx:l[i]? =some x) (hy:l[i]? =some y):y=x:=by
 rw [hx] at hy
 exact (Option.some.inj hy).symm
end
theorem Zr (n:Nat) (a:Int) (b:Int) (c:Int):Pure (QJ Try.prog (n+1)) 45 [(tI a),(tI b),(tI c)] (tB (decide (b≤a∧a≤c))):=by
 refine Pure.intro (rs:= [ResultVar.tmp 6]) Try.func45 Y Y Y (E0:= [(0,(tI a)),(1,(tI b)),(2,(tI c))]) Y ?_
 obtain ⟨hlim,hmx,hmax⟩:=ZS
 refine sr (fO (OF.assign (VEv.bool false)) (nt (sr (mO (tI a) Y (mO (tI b) Y (fO (xge (tv (tI a) Y) (tv (tI b) Y)) (mO (tB (decide (b≤a))) Y ?_)))))))
 refine gw (b≤a) (fun fhg10_1=> ?_) fun fhg10_1=> ?_
 ·refine gF (dy fhg10_1) Y Y (OF.move (tv (tI a) Y)) ?_
  refine gF (dy fhg10_1) Y Y (OF.move (tv (tI c) Y)) (gF (dy fhg10_1) Y Y (xle (tv (tI a) Y) (tv (tI c) Y)) (fO (OF.pickT (VEv.tmpB Y (dy fhg10_1)) (tv (tB (decide (a≤c))) Y)) (aO (tB (decide (a≤c))) Y (nt (rt (vb (b':=(decide (a≤c))) Y ?_))))))
  exact ZH (by omega)
 refine Ji 3 3 true 10 (dz fhg10_1) Y Y Y (fO (OF.pickF (VEv.tmpB Y (dz fhg10_1)) (VEv.bool false)) (aO (tB false) Y (nt (rt (vb (b':=false) Y ?_)))))
 (symm;rw [decide_eq_false_iff_not];omega)
theorem Q1 (n:Nat) (a:Int) (b:Int) (c:Int):Pure (QJ Try.prog (n+1)) 47 [(tI a),(tI b),(tI c)] (tB (decide (b≤a∧a≤c))):=by
 refine Pure.intro (rs:= [ResultVar.tmp 6]) Try.func47 Y Y Y (E0:= [(0,(tI a)),(1,(tI b)),(2,(tI c))]) Y ?_
 obtain ⟨hlim,hmx,hmax⟩:=ZS
 refine sr (fO (OF.assign (VEv.bool false)) (nt (sr (mO (tI b) Y (mO (tI a) Y (fO (xle (tv (tI b) Y) (tv (tI a) Y)) (mO (tB (decide (b≤a))) Y ?_)))))))
 refine gw (b≤a) (fun fhg10_1=> ?_) fun fhg10_1=> ?_
 ·refine gF (dy fhg10_1) Y Y (OF.move (tv (tI a) Y)) ?_
  refine gF (dy fhg10_1) Y Y (OF.move (tv (tI c) Y)) (gF (dy fhg10_1) Y Y (xle (tv (tI a) Y) (tv (tI c) Y)) (fO (OF.pickT (VEv.tmpB Y (dy fhg10_1)) (tv (tB (decide (a≤c))) Y)) (aO (tB (decide (a≤c))) Y (nt (rt (vb (b':=(decide (a≤c))) Y ?_))))))
  exact ZH (by omega)
 refine Ji 3 3 true 10 (dz fhg10_1) Y Y Y (fO (OF.pickF (VEv.tmpB Y (dz fhg10_1)) (VEv.bool false)) (aO (tB false) Y (nt (rt (vb (b':=false) Y ?_)))))
 (symm;rw [decide_eq_false_iff_not];omega)
theorem J1 (n:Nat) (a:Int):Pure (QJ Try.prog (n+1)) 57 [(T.int .u8 a)] (tB (decide (97≤a∧a≤122))):=by
 refine Pure.intro (rs:= [ResultVar.tmp 2]) Try.func57 Y Y Y (E0:= [(0,(T.int .u8 a))]) Y ?_
 obtain ⟨hlim,hmx,hmax⟩:=ZS
 refine sr (fO (OF.assign (VEv.bool false)) (nt (sr (mO (T.int .u8 a) Y (fO (xge (tv (T.int .u8 a) Y) (VEv.int .u8 97)) (mO (tB (decide (97≤a))) Y ?_))))))
 refine gw (97≤a) (fun fhg5_1=> ?_) fun fhg5_1=> ?_
 ·refine gF (dy fhg5_1) Y Y (OF.move (tv (T.int .u8 a) Y)) ?_
  refine gF (dy fhg5_1) Y Y (xle (tv (T.int .u8 a) Y) (VEv.int .u8 122)) (fO (OF.pickT (VEv.tmpB Y (dy fhg5_1)) (tv (tB (decide (a≤122))) Y)) (aO (tB (decide (a≤122))) Y (nt (rt (vb (b':=(decide (a≤122))) Y ?_)))))
  exact ZH (by omega)
 refine Ji 2 2 true 5 (dz fhg5_1) Y Y Y (fO (OF.pickF (VEv.tmpB Y (dz fhg5_1)) (VEv.bool false)) (aO (tB false) Y (nt (rt (vb (b':=false) Y ?_)))))
 (symm;rw [decide_eq_false_iff_not];omega)
noncomputable section
def Zu (s:ByteArray):Prop:=(1≤s.size∧s.size≤8)∧∀i,i<s.size→ZP s i=63∨(97≤ZP s i∧ZP s i≤122)
instance (s:ByteArray):Decidable (Zu s):=Classical.propDecidable _
end
theorem Yt (n:Nat) (a:ByteArray) (ha:a.size≤maxLen):Pure (QJ Try.prog (n+2)) 46 [(tS a)] (tB (decide (Zu a))):=by
 refine Pure.intro (rs:= [ResultVar.tmp 2]) Try.func46 Y Y Y (E0:= [(0,(tS a))]) Y ?_
 obtain ⟨hlim,hmx,hmax⟩:=ZS
 refine sr (fO (OF.assign (VEv.bool false)) (nt (sq (sr (mO (tS a) Y (lO (B.lenS (tv (tS a) Y) U9) (cO (cS (vc (tv (tN a.size) Y) (vc (VEv.int .i64 1) (vc (VEv.int .i64 8) vn))) (ZM Y) (Zr (n+0) ((a.size:Nat):Int) 1 8) Y Y) (fO (QU (tv (tB (decide (1≤((a.size:Nat):Int)∧((a.size:Nat):Int)≤8))) Y)) (nt ?_)))))))))
 refine cn (1≤((a.size:Nat):Int)∧((a.size:Nat):Int)≤8) Y (fun fhc0=> ?_) fun fhc0=> ?_
 ·refine sr ?_
  refine fO (OF.assign (VEv.bool false)) (nt (rt (tr (vb (b':=false) Y ?_))))
  (symm;rw [decide_eq_false_iff_not];rintro ⟨h1,h2⟩;omega)
 refine sk (tn (sq (sr (fO (OF.assign (VEv.int .i64 0)) (nt (VRun.block ?_))))))
 refine VRun.loop (A:=Nat) (fun s_=> [(0,(tS a)),(3,(tN s_))]) (fun s_=>Jz []) 0 (fun s_=>s_≤a.size∧∀j,j<s_→ZP a j=63∨(97≤ZP a j∧ZP a j≤122)) (fun s_=>a.size - s_) (0:Nat) ?_ (Wk.mk (fun k=>k) ?_ ?_ ?_) ?_
 ·exact ⟨Nat.zero_le _,fun j hj=>by omega⟩
 ·exact (b2 (b2 bn))
 ·exact bn
 ·exact nd Y
 rintro i (hI':i≤a.size∧∀j,j<i→ZP a j=63∨(97≤ZP a j∧ZP a j≤122))
 show VRun _ _ _ [(0,(tS a)),(3,(tN i))] (Jz []) 0 _
 refine sq (sr (mO (tN i) Y (mO (tS a) Y (lO (B.lenS (tv (tS a) Y) U9) (fO (JG (tv (tN i) Y) (tv (tN a.size) Y)) (nt ?_))))))
 refine cd (i<a.size) Y (fun fhc1=> ?_) fun fhc1=> ?_
 ·refine sk ?_
  refine tn (sq (VRun.block (sr (mO (tS a) Y (mO (tN i) Y ?_)))))
  have hb1:i<a.size:=(by omega)
  refine fO (xix (tv (tS a) Y) (tv (tN i) Y) hb1 U9) (fO (xne (tv (T.int .u8 (ZP a i)) Y) (VEv.int .u8 63)) (mO (tB (!(decide (ZP a i=63)))) Y ?_))
  refine gn (ZP a i=63) (fun fhg18_2=> ?_) fun fhg18_2=> ?_
  ·refine gF (ny fhg18_2) Y Y (OF.move (tv (tS a) Y)) ?_
   refine gF (ny fhg18_2) Y Y (OF.move (tv (tN i) Y)) ?_
   have hb3:i<a.size:=(by omega)
   refine gF (ny fhg18_2) Y Y (xix (tv (tS a) Y) (tv (tN i) Y) hb3 U9) (gF (ny fhg18_2) Y Y (xls (tv (T.int .u8 (ZP a i)) Y) (VEv.int .u8 97)) (gF (ny fhg18_2) Y Y (OF.move (tv (tB (decide (ZP a i<97))) Y)) ?_))
   refine gw (ZP a i<97) (fun fhg23_4=> ?_) fun fhg23_4=> ?_
   ·refine Ji 4 9 false 23 (dy fhg23_4) Y Y Y ?_
    refine gF (ny fhg18_2) Y Y (OF.pickT (VEv.tmpB Y (dy fhg23_4)) (VEv.bool true)) (fO (OF.pickT (VEv.tmpB Y (ny fhg18_2)) (tv (tB true) Y)) (nt (ct Y (sr (fO (OF.assign (VEv.bool false)) (nt (rt (vinB.r (tr (tr (vinB.r ?_)))))))))))
    refine tr (vb (b':=false) Y ?_)
    (symm;rw [decide_eq_false_iff_not];rintro ⟨h1,h2⟩;(have:=h2 i fhc1;omega))
   refine gF (dz fhg23_4) Y Y (OF.move (tv (tS a) Y)) (gF (dz fhg23_4) Y Y (OF.move (tv (tN i) Y)) ?_)
   have hb5:i<a.size:=(by omega)
   refine gF (dz fhg23_4) Y Y (xix (tv (tS a) Y) (tv (tN i) Y) hb5 U9) (gF (dz fhg23_4) Y Y (xgt (tv (T.int .u8 (ZP a i)) Y) (VEv.int .u8 122)) (gF (ny fhg18_2) Y Y (OF.pickF (VEv.tmpB Y (dz fhg23_4)) (tv (tB (decide (122<ZP a i))) Y)) (fO (OF.pickT (VEv.tmpB Y (ny fhg18_2)) (tv (tB (decide (122<ZP a i))) Y)) (nt ?_))))
   refine cd (122<ZP a i) Y (fun fhc2=> ?_) fun fhc2=> ?_
   ·refine sr ?_
    refine fO (OF.assign (VEv.bool false)) (nt (rt (vinB.r (tr (tr (vinB.r (tr (vb (b':=false) Y ?_))))))))
    (symm;rw [decide_eq_false_iff_not];rintro ⟨h1,h2⟩;(have:=h2 i fhc1;omega))
   refine sk (vinB.n (tn (VRun.region (mO (tN i) Y (fO (ZQ (tv (tN i) Y) (VEv.int .i64 1) (by omega)) (aO (tN (i+1)) Y (VRunO.nil (tn ?_))))))))
   refine ⟨(i+1:Nat),?_,?_,Wk.mk (fun k=>k) ?_ ?_ ?_⟩
   ·exact Yd (ok:=fun j=>ZP a j=63∨(97≤ZP a j∧ZP a j≤122)) hI' fhc1 (by omega)
   ·omega
   ·exact (b2 (b2 bn))
   ·exact bn
   ·exact nd Y
  refine Ji 5 4 true 18 (nz fhg18_2) Y Y Y (QeZ 4 9 false 23 Y Y Y (oO Y Y (nz fhg18_2) (fO (OF.pickF (VEv.tmpB Y (nz fhg18_2)) (VEv.bool false)) (nt (cf Y (sk (vinB.n (tn (VRun.region (mO (tN i) Y (fO (ZQ (tv (tN i) Y) (VEv.int .i64 1) (by omega)) ?_)))))))))))
  refine aO (tN (i+1)) Y (VRunO.nil (tn ?_))
  refine ⟨(i+1:Nat),?_,?_,Wk.mk (fun k=>k) ?_ ?_ ?_⟩
  ·exact Yd (ok:=fun j=>ZP a j=63∨(97≤ZP a j∧ZP a j≤122)) hI' fhc1 (by omega)
  ·omega
  ·exact (b2 (b2 bn))
  ·exact bn
  ·exact nd Y
 refine VRun.exit (vthn.e (vthn.e (vinB.e (tn (sr (fO (OF.assign (VEv.bool true)) (nt (rt (vb (b':=true) Y ?_)))))))))
 (symm;rw [decide_eq_true_eq];exact ⟨by omega,QX hI' fhc1⟩)
theorem Yr (n:Nat) (a:ByteArray) (ha:a.size≤maxLen):Pure (QJ Try.prog (n+2)) 48 [(tS a)] (tB (decide (Zu a))):=by
 refine Pure.intro (rs:= [ResultVar.tmp 2]) Try.func48 Y Y Y (E0:= [(0,(tS a))]) Y ?_
 obtain ⟨hlim,hmx,hmax⟩:=ZS
 refine sr (fO (OF.assign (VEv.bool false)) (nt (sq (sr (mO (tS a) Y (lO (B.lenS (tv (tS a) Y) U9) (cO (cS (vc (tv (tN a.size) Y) (vc (VEv.int .i64 1) (vc (VEv.int .i64 8) vn))) (ZM Y) (Q1 (n+0) ((a.size:Nat):Int) 1 8) Y Y) (fO (QU (tv (tB (decide (1≤((a.size:Nat):Int)∧((a.size:Nat):Int)≤8))) Y)) (nt ?_)))))))))
 refine cn (1≤((a.size:Nat):Int)∧((a.size:Nat):Int)≤8) Y (fun fhc0=> ?_) fun fhc0=> ?_
 ·refine sr ?_
  refine fO (OF.assign (VEv.bool false)) (nt (rt (tr (vb (b':=false) Y ?_))))
  (symm;rw [decide_eq_false_iff_not];rintro ⟨h1,h2⟩;omega)
 refine sk (tn (sq (sr (mO (tS a) Y (lO (B.lenS (tv (tS a) Y) U9) (fO (OF.move (VEv.int .i64 0)) (nt (VRun.block ?_))))))))
 refine VRun.loop (A:=Nat) (fun s_=> [(0,(tS a)),(9,(tN a.size)),(10,(tN s_))]) (fun s_=>Jz []) 0 (fun s_=>s_≤a.size∧∀j,j<s_→ZP a j=63∨(97≤ZP a j∧ZP a j≤122)) (fun s_=>a.size - s_) (0:Nat) ?_ (Wk.mk (fun k=>k) ?_ ?_ ?_) ?_
 ·exact ⟨Nat.zero_le _,fun j hj=>by omega⟩
 ·exact (b2 (b2 (b2 bn)))
 ·exact bn
 ·exact nd Y
 rintro i (hI':i≤a.size∧∀j,j<i→ZP a j=63∨(97≤ZP a j∧ZP a j≤122))
 show VRun _ _ _ [(0,(tS a)),(9,(tN a.size)),(10,(tN i))] (Jz []) 0 _
 refine sr (fO (JG (tv (tN i) Y) (tv (tN a.size) Y)) (nt (sq ?_)))
 refine cd (i<a.size) Y (fun fhc1=> ?_) fun fhc1=> ?_
 ·refine sk ?_
  refine tn (sq (VRun.block (sr (mO (tN i) Y (aO (tN i) Y (nt (sr (mO (tS a) Y (mO (tN i) Y ?_)))))))))
  have hb1:i<a.size:=(by omega)
  refine fO (xix (tv (tS a) Y) (tv (tN i) Y) hb1 U9) (fO (xne (tv (T.int .u8 (ZP a i)) Y) (VEv.int .u8 63)) (mO (tB (!(decide (ZP a i=63)))) Y ?_))
  refine gn (ZP a i=63) (fun fhg17_2=> ?_) fun fhg17_2=> ?_
  ·refine gF (ny fhg17_2) Y Y (OF.move (tv (tS a) Y)) ?_
   refine gF (ny fhg17_2) Y Y (OF.move (tv (tN i) Y)) ?_
   have hb3:i<a.size:=(by omega)
   refine gF (ny fhg17_2) Y Y (xix (tv (tS a) Y) (tv (tN i) Y) hb3 U9) (VRunO.chain (VWant.on Y Y (ny fhg17_2)) (cS (vc (tv (T.int .u8 (ZP a i)) Y) vn) (ZM Y) (J1 (n+0) (ZP a i)) Y Y) (gF (ny fhg17_2) Y Y (QU (tv (tB (decide (97≤(ZP a i)∧(ZP a i)≤122))) Y)) (fO (OF.pickT (VEv.tmpB Y (ny fhg17_2)) (tv (tB (!(decide (97≤(ZP a i)∧(ZP a i)≤122)))) Y)) (nt ?_))))
   refine cn (97≤(ZP a i)∧(ZP a i)≤122) Y (fun fhc2=> ?_) fun fhc2=> ?_
   ·refine sr ?_
    refine fO (OF.assign (VEv.bool false)) (nt (rt (vinB.r (tr (tr (vinB.r (tr (vb (b':=false) Y ?_))))))))
    (symm;rw [decide_eq_false_iff_not];rintro ⟨h1,h2⟩;(have:=h2 i fhc1;omega))
   refine sk (vinB.n (tn (VRun.region (fO (ZQ (tv (tN i) Y) (VEv.int .i64 1) (by omega)) (mO (tN (i+1)) Y (VRunO.nil (tn ?_)))))))
   refine ⟨(i+1:Nat),?_,?_,Wk.mk (fun k=>k) ?_ ?_ ?_⟩
   ·exact Yd (ok:=fun j=>ZP a j=63∨(97≤ZP a j∧ZP a j≤122)) hI' fhc1 (by omega)
   ·omega
   ·exact (b2 (b2 (b2 bn)))
   ·exact bn
   ·exact nd Y
  refine Ji 5 4 true 17 (nz fhg17_2) Y Y Y (fO (OF.pickF (VEv.tmpB Y (nz fhg17_2)) (VEv.bool false)) (nt (cf Y (sk (vinB.n (tn (VRun.region (fO (ZQ (tv (tN i) Y) (VEv.int .i64 1) (by omega)) (mO (tN (i+1)) Y (VRunO.nil (tn ?_)))))))))))
  refine ⟨(i+1:Nat),?_,?_,Wk.mk (fun k=>k) ?_ ?_ ?_⟩
  ·exact Yd (ok:=fun j=>ZP a j=63∨(97≤ZP a j∧ZP a j≤122)) hI' fhc1 (by omega)
  ·omega
  ·exact (b2 (b2 (b2 bn)))
  ·exact bn
  ·exact nd Y
 refine VRun.exit (vthn.e (vthn.e (vinB.e (tn (sr (fO (OF.assign (VEv.bool true)) (nt (rt (vb (b':=true) Y ?_)))))))))
 (symm;rw [decide_eq_true_eq];exact ⟨by omega,QX hI' fhc1⟩)
noncomputable section
def QQ (a b:D.Note):Bool:=if a.Tick=b.Tick then (if a.Who=b.Who then !(Op.bytesLess a.Letter.toList b.Letter.toList || decide (a.Letter=b.Letter)) else decide (b.Who<a.Who)) else decide (b.Tick<a.Tick)
def Qad (l:List D.Note) (j:Nat):Prop:=∃x,l[j]? =some x∧(0≤x.Cell∧x.Cell≤35)∧x.Letter.size=1∧Zu x.Letter∧(0≤x.Tick∧x.Tick≤1000)∧(1≤x.Who∧x.Who≤9)∧(0<j→∃y,l[j - 1]? =some y∧y.Cell<x.Cell)
def Qb (l:List D.Note):Prop:=l.length≤40∧∀j,j<l.length→Qad l j
instance (l:List D.Note):Decidable (Qb l):=Classical.propDecidable _
end
theorem YX (n:Nat) (a:D.Note) (b:D.Note):Pure (QJ Try.prog (n+1)) 28 [(T.agg (Qa false a)),(T.agg (Qa false b))] (tB (QQ a b)):=by
 refine Pure.intro (rs:= [ResultVar.tmp 4]) Try.func28 Y Y Y (E0:= [(0,(T.agg (Qa false a))),(1,(T.agg (Qa false b)))]) Y ?_
 obtain ⟨hlim,hmx,hmax⟩:=ZS
 refine sr (kO (B.box (ts:=(Qa false a)) (tv (T.agg (Qa false a)) Y) nofun Y) (kO (B.box (ts:=(Qa false b)) (tv (T.agg (Qa false b)) Y) nofun Y) (fO (OF.assign (VEv.bool false)) (nt (sq (VRun.block (sr (lf (tI a.Tick) Y Zg Y Y ZE (lf (tI b.Tick) Y Zg Y Y ZE (fO (xne (tv (tI a.Tick) Y) (tv (tI b.Tick) Y)) (aO (tB (!(decide (a.Tick=b.Tick)))) Y ?_)))))))))))
 refine nt ?_
 refine cn (a.Tick=b.Tick) Y (fun fhc0=> ?_) fun fhc0=> ?_
 ·refine sr ?_
  refine lf (tI a.Tick) Y Zg Y Y ZE (lf (tI b.Tick) Y Zg Y Y ZE (fO (xgt (tv (tI a.Tick) Y) (tv (tI b.Tick) Y)) (aO (tB (decide (b.Tick<a.Tick))) Y (nt (rt (vinB.r (tr (vb (b':=(decide (b.Tick<a.Tick))) Y ?_))))))))
  simp only [QQ];simp_all
 refine sr (lf (tI a.Who) Y Zi Y Y ZE (lf (tI b.Who) Y Zi Y Y ZE (fO (xne (tv (tI a.Who) Y) (tv (tI b.Who) Y)) (aO (tB (!(decide (a.Who=b.Who)))) Y (nt ?_)))))
 refine cn (a.Who=b.Who) Y (fun fhc1=> ?_) fun fhc1=> ?_
 ·refine sr ?_
  refine lf (tI a.Who) Y Zi Y Y ZE (lf (tI b.Who) Y Zi Y Y ZE (fO (xgt (tv (tI a.Who) Y) (tv (tI b.Who) Y)) (aO (tB (decide (b.Who<a.Who))) Y (nt (rt (vinB.r (tr (vb (b':=(decide (b.Who<a.Who))) Y ?_))))))))
  simp only [QQ];simp_all
 refine sk (vinB.n (tn (sr (lf (tS a.Letter) Y Zf Y Y st9 (lf (tS b.Letter) Y Zf Y Y st9 (fO (B.sgtr (c:=(!(Op.bytesLess a.Letter.toList b.Letter.toList || decide (a.Letter=b.Letter)))) (tv (tS a.Letter) Y) (tv (tS b.Letter) Y) Y) (aO (tB (!(Op.bytesLess a.Letter.toList b.Letter.toList || decide (a.Letter=b.Letter)))) Y (nt (rt (vb (b':=(!(Op.bytesLess a.Letter.toList b.Letter.toList || decide (a.Letter=b.Letter)))) Y ?_))))))))))
 simp only [QQ];simp_all
theorem YZ (n:Nat) (a:D.Note) (b:D.Note):Pure (QJ Try.prog (n+1)) 33 [(T.agg (Qa false a)),(T.agg (Qa false b))] (tB (QQ a b)):=by
 refine Pure.intro (rs:= [ResultVar.tmp 4]) Try.func33 Y Y Y (E0:= [(0,(T.agg (Qa false a))),(1,(T.agg (Qa false b)))]) Y ?_
 obtain ⟨hlim,hmx,hmax⟩:=ZS
 refine sr (kO (B.box (ts:=(Qa false a)) (tv (T.agg (Qa false a)) Y) nofun Y) (kO (B.box (ts:=(Qa false b)) (tv (T.agg (Qa false b)) Y) nofun Y) (fO (OF.assign (VEv.bool false)) (nt (sq (VRun.block (sr (lf (tI a.Tick) Y Zg Y Y ZE (lf (tI b.Tick) Y Zg Y Y ZE (fO (xne (tv (tI a.Tick) Y) (tv (tI b.Tick) Y)) (aO (tB (!(decide (a.Tick=b.Tick)))) Y ?_)))))))))))
 refine nt ?_
 refine cn (a.Tick=b.Tick) Y (fun fhc0=> ?_) fun fhc0=> ?_
 ·refine sr ?_
  refine lf (tI a.Tick) Y Zg Y Y ZE (lf (tI b.Tick) Y Zg Y Y ZE (fO (xgt (tv (tI a.Tick) Y) (tv (tI b.Tick) Y)) (aO (tB (decide (b.Tick<a.Tick))) Y (nt (rt (vinB.r (tr (vb (b':=(decide (b.Tick<a.Tick))) Y ?_))))))))
  simp only [QQ];simp_all
 refine sr (lf (tI a.Who) Y Zi Y Y ZE (lf (tI b.Who) Y Zi Y Y ZE (fO (xne (tv (tI a.Who) Y) (tv (tI b.Who) Y)) (aO (tB (!(decide (a.Who=b.Who)))) Y (nt ?_)))))
 refine cn (a.Who=b.Who) Y (fun fhc1=> ?_) fun fhc1=> ?_
 ·refine sr ?_
  refine lf (tI a.Who) Y Zi Y Y ZE (lf (tI b.Who) Y Zi Y Y ZE (fO (xgt (tv (tI a.Who) Y) (tv (tI b.Who) Y)) (aO (tB (decide (b.Who<a.Who))) Y (nt (rt (vinB.r (tr (vb (b':=(decide (b.Who<a.Who))) Y ?_))))))))
  simp only [QQ];simp_all
 refine sk (vinB.n (tn (sr (lf (tS a.Letter) Y Zf Y Y st9 (lf (tS b.Letter) Y Zf Y Y st9 (fO (B.sgtr (c:=(!(Op.bytesLess a.Letter.toList b.Letter.toList || decide (a.Letter=b.Letter)))) (tv (tS a.Letter) Y) (tv (tS b.Letter) Y) Y) (aO (tB (!(Op.bytesLess a.Letter.toList b.Letter.toList || decide (a.Letter=b.Letter)))) Y (nt (rt (vb (b':=(!(Op.bytesLess a.Letter.toList b.Letter.toList || decide (a.Letter=b.Letter)))) Y ?_))))))))))
 simp only [QQ];simp_all
theorem Qw (n:Nat) (a:List D.Note) (hz:zL Qj a≤2*mx):Pure (QJ Try.prog (n+3)) 29 [(rd 4 Qa a)] (tB (decide (Qb a))):=by
 refine Pure.intro (rs:= [ResultVar.tmp 2]) Try.func29 Y Y Y (E0:= [(0,(rd 4 Qa a))]) Y ?_
 obtain ⟨hlim,hmx,hmax⟩:=ZS
 have ha:=Z2 (z:=Qj) a
 have hw:∀x∈a,x.Letter.size≤maxLen:=fun x hx=>by have h1:=Qc7 (z:=Qj) hx;simp only [Qj] at h1;omega
 refine sr (fO (OF.assign (VEv.bool false)) (nt (sq (sr (fO (OF.assign (VEv.int .i64 0)) (nt (VRun.block ?_)))))))
 refine VRun.loop (A:=Nat) (fun s_=> [(0,(rd 4 Qa a)),(3,(tN s_))]) (fun s_=>Jz []) 0 (fun s_=>s_≤a.length∧∀j,j<s_→Qad a j) (fun s_=>a.length - s_) (0:Nat) ?_ (Wk.mk (fun k=>k) ?_ ?_ ?_) ?_
 ·exact ⟨Nat.zero_le _,fun j hj=>by omega⟩
 ·exact (b2 (b2 bn))
 ·exact bn
 ·exact nd Y
 rintro i (hI':i≤a.length∧∀j,j<i→Qad a j)
 show VRun _ _ _ [(0,(rd 4 Qa a)),(3,(tN i))] (Jz []) 0 _
 have hI0:=hI'
 refine sq (sr (mO (tN i) Y (mO (rd 4 Qa a) Y (lO (B.lenR (m:=a.length) (tv (rd 4 Qa a) Y) QD (List.length_map ..)) (fO (JG (tv (tN i) Y) (tv (tN a.length) Y)) (nt ?_))))))
 refine cd (i<a.length) Y (fun fhc0=> ?_) fun fhc0=> ?_
 ·refine sk ?_
  refine tn (sq (VRun.block (sr (mO (rd 4 Qa a) Y (mO (tN i) Y ?_)))))
  obtain ⟨x1,hx1⟩:∃x,a[i]? =some x:=⟨_,List.getElem?_eq_getElem (by first | exact hw _ (List.mem_of_getElem? hx1) | omega)⟩
  refine fO (OF.indexAddrR (row:=(Qa false x1)) (i:=i) (tv (rd 4 Qa a) Y) (tv (tN i) Y) Y (QK _ hx1) QD Qg Q3) (lO (OL.loadRn (us:=(Qa false x1)) (tv (T.rp (Qa false x1)) Y) Zx Qg (lb Y) Y) (kO (B.alloc (t:=(T.agg [(tN 0),(tS ByteArray.empty),(tN 0),(tN 0)])) (ts:= [(tN 0),(tS ByteArray.empty),(tN 0),(tN 0)]) QF QcK nofun (fun _=> .agg _ _ Y (Qa0 (RL.cons (.int _ _) (RL.cons (.str _) (RL.cons (.int _ _) (RL.cons (.int _ _) (RL.nil _))))))) Y) (cO (B.storeW (us:=(Qa false x1)) (tv (T.op 0 0) Y) (tv (T.agg (Qa false x1)) Y) nofun Y Y Y Q3 Qg (bc Y (bc Y (bc Y (bc Y bn))))) (nt (sq (VRun.draw (B:= [[],[0],[0,1],[1,0,2],[2,0,1,3],[3,1,0,2,4],[4,2,0,1,3,5],[5,3,1,0,2,4,6],[6,4,2,0,1,3,5,7],[6,4,2,0,1,3,5,7],[7,5,3,1,0,2,4,6,9],[9,10,7,5,3,1,0,2,4,6,8],[8,6,4,2,0,1,3,5,7,10,9,11],[11,9,10,7,5,3,1,0,2,4,6,8,12],[6,4,2,0,1,3,5,7],[7,5,3,1,0,2,4,6,14],[14,15,12,8,6,4,2,0,1,3,5,7,10,9,11,13],[13,11,9,10,8,12,15,14,16,6,4,2,0,1,3,5,7],[7,5,6,16,14,15,12,8,10,9,11,13,17,3,1,0,2,4],[4,2,0,1,3,17,13,11,9,10,8,12,15,14,16,6,5,7,18],[18,7,5,6,16,14,15,12,8,10,9,11,13,17,3,1,0,2,4,19],[19,4,2,0,1,3,17,13,11,9,10,8,12,15,14,16,6,5,7,18,20],[20,18,7,5,6,16,14,15,12,8,10,9,11,13,17,3,1,0,2,4,19,21],[21,19,4,2,0,1,3,17,13,11,9,10,8,12,15,14,16,6,5,7,18,20,22],[22,20,21,23,18,7,5,6,16,14,15,12,8,10,9,11,13,17,3,1,0,2,4,19],[19,4,2,0,1,3,17,13,11,9,10,8,12,15,14,16,6,5,7,18,23,21,20,22,24],[24,22,20,21,23,18,7,5,6,16,14,15,12,8,10,9,11,13,17,3,1,0,2,4,19,25],[25,19,4,2,0,1,3,17,13,11,9,10,8,12,15,14,16,6,5,7,18,23,21,20,22,24,26],[26,24,22,20,21,23,18,7,5,6,16,14,15,12,8,10,9,11,13,17,3,1,0,2,4,19,25,27],[27,25,19,4,2,0,1,3,17,13,11,9,10,8,12,15,14,16,6,5,7,18,23,21,20,22,24,26,28],[28,26,27,29,24,22,20,21,23,18,7,5,6,16,14,15,12,8,10,9,11,13,17,3,1,0,2,4,19,25],[25,19,4,2,0,1,3,17,13,11,9,10,8,12,15,14,16,6,5,7,18,23,21,20,22,24,29,27,26,28,30],[30,28,26,27,29,24,22,20,21,23,18,7,5,6,16,14,15,12,8,10,9,11,13,17,3,1,0,2,4,19,25,31],[31,25,19,4,2,0,1,3,17,13,11,9,10,8,12,15,14,16,6,5,7,18,23,21,20,22,24,29,27,26,28,30,32],[32,30,28,26,27,29,24,22,20,21,23,18,7,5,6,16,14,15,12,8,10,9,11,13,17,3,1,0,2,4,19,25,31,33],[33,31,25,19,4,2,0,1,3,17,13,11,9,10,8,12,15,14,16,6,5,7,18,23,21,20,22,24,29,27,26,28,30,32,34],[34,32,33,35,30,28,26,27,29,24,22,20,21,23,18,7,5,6,16,14,15,12,8,10,9,11,13,17,3,1,0,2,4,19,25,31],[31,25,19,4,2,0,1,3,17,13,11,9,10,8,12,15,14,16,6,5,7,18,23,21,20,22,24,29,27,26,28,30,35,33,32,34,36],[36,34,32,33,35,30,28,26,27,29,24,22,20,21,23,18,7,5,6,16,14,15,12,8,10,9,11,13,17,3,1,0,2,4,19,25,31,37],[37,31,25,19,4,2,0,1,3,17,13,11,9,10,8,12,15,14,16,6,5,7,18,23,21,20,22,24,29,27,26,28,30,35,33,32,34,36,38],[38,36,34,32,33,35,30,28,26,27,29,24,22,20,21,23,18,7,5,6,16,14,15,12,8,10,9,11,13,17,3,1,0,2,4,19,25,31,37,39],[39,37,31,25,19,4,2,0,1,3,17,13,11,9,10,8,12,15,14,16,6,5,7,18,23,21,20,22,24,29,27,26,28,30,35,33,32,34,36,38,40],[40,38,39,41,36,34,32,33,35,30,28,26,27,29,24,22,20,21,23,18,7,5,6,16,14,15,12,8,10,9,11,13,17,3,1,0,2,4,19,25,31,37]]) (by kernel_rfl) (by kernel_rfl) ?_))))))
  refine fD (OF.fieldAddrO (tv (T.op 0 0) Y) QY) Y Y (lD (OL.loadO1 (t:=(tI x1.Cell)) (tv (T.op 0 0) Y) Y Y ZE) Y Y (VRunD.quiet (bi:= [0,1]) Y VWant.always Y Y Y bn (cS (vc (tv (tI x1.Cell) Y) (vc (VEv.int .i64 0) (vc (VEv.int .i64 35) vn))) (ZM Y) (Zr (n+1) x1.Cell 0 35) Y Y) (fD (QU (tv (tB (decide (0≤x1.Cell∧x1.Cell≤35))) Y)) Y Y (mD (tB (!(decide (0≤x1.Cell∧x1.Cell≤35)))) Y Y ?_))))
  refine gn (0≤x1.Cell∧x1.Cell≤35) (fun fhg19_1=> ?_) fun fhg19_1=> ?_
  ·refine oD Y Y (ny fhg19_1) Y ?_
   refine oD Y Y (ny fhg19_1) Y (oD Y Y (ny fhg19_1) Y (uD Y Y Y (uD Y Y Y (uD Y Y Y (uD Y Y Y (uD Y Y Y (uD Y Y Y (uD Y Y Y (uD Y Y Y (uD Y Y Y (oD Y Y (ny fhg19_1) Y ?_)))))))))))
   refine fD (OF.pickT (VEv.tmpB Y (ny fhg19_1)) (VEv.bool true)) Y Y (mD (tB true) Y Y (VRunD.off Y (VWant.not (b:=true) Y Y Y) (VRunD.off Y (VWant.not (b:=true) Y Y Y) (VRunD.off Y (VWant.not (b:=true) Y Y Y) (VRunD.off Y (VWant.not (b:=true) Y Y Y) (fD (OF.pickT (tv (tB true) Y) (VEv.bool true)) Y Y (mD (tB true) Y Y (VRunD.off Y (VWant.not (b:=true) Y Y Y) (VRunD.off Y (VWant.not (b:=true) Y Y Y) (VRunD.off Y (VWant.not (b:=true) Y Y Y) (VRunD.off Y (VWant.not (b:=true) Y Y Y) ?_)))))))))))
   refine fD (OF.pickT (tv (tB true) Y) (VEv.bool true)) Y Y (mD (tB true) Y Y (VRunD.off Y (VWant.not (b:=true) Y Y Y) (VRunD.off Y (VWant.not (b:=true) Y Y Y) (VRunD.off Y (VWant.not (b:=true) Y Y Y) (VRunD.off Y (VWant.not (b:=true) Y Y Y) (fD (OF.pickT (tv (tB true) Y) (VEv.bool true)) Y Y (mD (tB true) Y Y (VRunD.off Y (VWant.not (b:=true) Y Y Y) (VRunD.off Y (VWant.not (b:=true) Y Y Y) (VRunD.off Y (VWant.not (b:=true) Y Y Y) (VRunD.off Y (VWant.not (b:=true) Y Y Y) ?_)))))))))))
   refine fD (OF.pickT (tv (tB true) Y) (VEv.bool true)) Y Y (VRunD.nil (tn (ct Y (sr (fO (OF.assign (VEv.bool false)) (nt (rt (vinB.r (tr (tr (vinB.r ?_)))))))))))
   refine tr (vb (b':=false) Y ?_)
   first | (refine ZH ⟨fun h=>⟨by omega,QX hI' fhc0⟩,fun h=>by have:=h.1;omega⟩) | (symm;rw [decide_eq_false_iff_not];rintro ⟨_,h2⟩;obtain ⟨y,hy,h3,h4,h5,h6,h7,h8⟩:=h2 i fhc0;obtain rfl:=Qm hx1 hy;first | omega | contradiction | (obtain ⟨z,hz,h9⟩:=h8 (by omega);obtain rfl:=Qm hx2 hz;omega) | (simp_all;done))
  refine VRunD.free Y (VWant.on Y Y (nz fhg19_1)) Y (OF.move (tv (tN i) Y)) (VRunD.free Y (VWant.on Y Y (nz fhg19_1)) Y (B.gtr (c:=(decide (0<i))) (tv (tN i) Y) (VEv.int .i64 0) (by first | exact hw _ (List.mem_of_getElem? hx1) | (exact ZH (by omega)))) (VRunD.free Y (VWant.on Y Y (nz fhg19_1)) Y (OF.move (tv (tB (decide (0<i))) Y)) ?_))
  refine gw (0<i) (fun fhg22_2=> ?_) fun fhg22_2=> ?_
  ·refine VRunD.free Y (VWant.on Y Y (dy fhg22_2)) Y (OF.move (tv (rd 4 Qa a) Y)) ?_
   refine VRunD.free Y (VWant.on Y Y (dy fhg22_2)) Y (OF.move (tv (tN i) Y)) (VRunD.free Y (VWant.on Y Y (dy fhg22_2)) Y (B.sub (n:=((i - 1:Nat):Int)) (tv (tN i) Y) (VEv.int .i64 1) (by first | exact hw _ (List.mem_of_getElem? hx1) | rfl | (rw [Z7 (by omega)];omega) | (rw [Z7 (by omega)];done))) ?_)
   obtain ⟨x2,hx2⟩:∃x,a[i - 1]? =some x:=⟨_,List.getElem?_eq_getElem (by first | exact hw _ (List.mem_of_getElem? hx1) | omega)⟩
   refine VRunD.free Y (VWant.on Y Y (dy fhg22_2)) Y (OF.indexAddrR (row:=(Qa false x2)) (i:=i - 1) (tv (rd 4 Qa a) Y) (tv (tN (i - 1)) Y) Y (QK _ hx2) QD Qg Q3) (VRunD.free Y (VWant.on Y Y (dy fhg22_2)) Y (B.fieldAddrR (us:=(Qa false x2)) (tv (T.rp (Qa false x2)) Y) (lb Y) QY Y) (VRunD.look Y (VWant.on Y Y (dy fhg22_2)) Y (OL.loadR1 (t:=(tI x2.Cell)) (tv (T.rp (Qa false x2)) Y) Y ZE) (VRunD.free Y (VWant.on Y Y (dy fhg22_2)) Y (OF.fieldAddrO (tv (T.op 0 0) Y) QY) (VRunD.look Y (VWant.on Y Y (dy fhg22_2)) Y (OL.loadO1 (t:=(tI x1.Cell)) (tv (T.op 0 0) Y) Y Y ZE) (VRunD.free Y (VWant.on Y Y (dy fhg22_2)) Y (xge (tv (tI x2.Cell) Y) (tv (tI x1.Cell) Y)) (VRunD.free Y (VWant.on Y Y (nz fhg19_1)) Y (OF.pickT (VEv.tmpB Y (dy fhg22_2)) (tv (tB (decide (x1.Cell≤x2.Cell))) Y)) (fD (OF.pickF (VEv.tmpB Y (nz fhg19_1)) (tv (tB (decide (x1.Cell≤x2.Cell))) Y)) Y Y (mD (tB (decide (x1.Cell≤x2.Cell))) Y Y ?_))))))))
   refine gw (x1.Cell≤x2.Cell) (fun fhg34_3=> ?_) fun fhg34_3=> ?_
   ·refine oD Y Y (dy fhg34_3) Y ?_
    refine oD Y Y (dy fhg34_3) Y (oD Y Y (dy fhg34_3) Y (oD Y Y (dy fhg34_3) Y (fD (OF.pickT (VEv.tmpB Y (dy fhg34_3)) (VEv.bool true)) Y Y (mD (tB true) Y Y (VRunD.off Y (VWant.not (b:=true) Y Y Y) (VRunD.off Y (VWant.not (b:=true) Y Y Y) (VRunD.off Y (VWant.not (b:=true) Y Y Y) (VRunD.off Y (VWant.not (b:=true) Y Y Y) (fD (OF.pickT (tv (tB true) Y) (VEv.bool true)) Y Y (mD (tB true) Y Y (VRunD.off Y (VWant.not (b:=true) Y Y Y) ?_)))))))))))
    refine VRunD.off Y (VWant.not (b:=true) Y Y Y) (VRunD.off Y (VWant.not (b:=true) Y Y Y) (VRunD.off Y (VWant.not (b:=true) Y Y Y) (fD (OF.pickT (tv (tB true) Y) (VEv.bool true)) Y Y (mD (tB true) Y Y (VRunD.off Y (VWant.not (b:=true) Y Y Y) (VRunD.off Y (VWant.not (b:=true) Y Y Y) (VRunD.off Y (VWant.not (b:=true) Y Y Y) (VRunD.off Y (VWant.not (b:=true) Y Y Y) (fD (OF.pickT (tv (tB true) Y) (VEv.bool true)) Y Y (VRunD.nil (tn ?_)))))))))))
    refine ct Y (sr (fO (OF.assign (VEv.bool false)) (nt (rt (vinB.r (tr (tr (vinB.r (tr (vb (b':=false) Y ?_))))))))))
    first | (refine ZH ⟨fun h=>⟨by omega,QX hI' fhc0⟩,fun h=>by have:=h.1;omega⟩) | (symm;rw [decide_eq_false_iff_not];rintro ⟨_,h2⟩;obtain ⟨y,hy,h3,h4,h5,h6,h7,h8⟩:=h2 i fhc0;obtain rfl:=Qm hx1 hy;first | omega | contradiction | (obtain ⟨z,hz,h9⟩:=h8 (by omega);obtain rfl:=Qm hx2 hz;omega) | (simp_all;done))
   refine VRunD.free Y (VWant.on Y Y (dz fhg34_3)) Y (OF.fieldAddrO (tv (T.op 0 0) Y) Zf) (VRunD.look Y (VWant.on Y Y (dz fhg34_3)) Y (OL.loadO1 (t:=(tS x1.Letter)) (tv (T.op 0 1) Y) Y Y st9) (VRunD.look Y (VWant.on Y Y (dz fhg34_3)) Y (B.lenS (tv (tS x1.Letter) Y) U9) (VRunD.free Y (VWant.on Y Y (dz fhg34_3)) Y (B.neq (c:=(!(decide (x1.Letter.size=1)))) (tv (tN x1.Letter.size) Y) (VEv.int .i64 1) (by first | exact hw _ (List.mem_of_getElem? hx1) | (exact Qcl (by omega)))) (fD (OF.pickF (VEv.tmpB Y (dz fhg34_3)) (tv (tB (!(decide (x1.Letter.size=1)))) Y)) Y Y (mD (tB (!(decide (x1.Letter.size=1)))) Y Y ?_)))))
   refine gn (x1.Letter.size=1) (fun fhg40_4=> ?_) fun fhg40_4=> ?_
   ·refine oD Y Y (ny fhg40_4) Y ?_
    refine oD Y Y (ny fhg40_4) Y (oD Y Y (ny fhg40_4) Y (oD Y Y (ny fhg40_4) Y (fD (OF.pickT (VEv.tmpB Y (ny fhg40_4)) (VEv.bool true)) Y Y (mD (tB true) Y Y (VRunD.off Y (VWant.not (b:=true) Y Y Y) (VRunD.off Y (VWant.not (b:=true) Y Y Y) (VRunD.off Y (VWant.not (b:=true) Y Y Y) (VRunD.off Y (VWant.not (b:=true) Y Y Y) (fD (OF.pickT (tv (tB true) Y) (VEv.bool true)) Y Y (mD (tB true) Y Y (VRunD.off Y (VWant.not (b:=true) Y Y Y) ?_)))))))))))
    refine VRunD.off Y (VWant.not (b:=true) Y Y Y) (VRunD.off Y (VWant.not (b:=true) Y Y Y) (VRunD.off Y (VWant.not (b:=true) Y Y Y) (fD (OF.pickT (tv (tB true) Y) (VEv.bool true)) Y Y (VRunD.nil (tn (ct Y (sr (fO (OF.assign (VEv.bool false)) (nt (rt (vinB.r ?_)))))))))))
    refine tr (tr (vinB.r (tr (vb (b':=false) Y ?_))))
    first | (refine ZH ⟨fun h=>⟨by omega,QX hI' fhc0⟩,fun h=>by have:=h.1;omega⟩) | (symm;rw [decide_eq_false_iff_not];rintro ⟨_,h2⟩;obtain ⟨y,hy,h3,h4,h5,h6,h7,h8⟩:=h2 i fhc0;obtain rfl:=Qm hx1 hy;first | omega | contradiction | (obtain ⟨z,hz,h9⟩:=h8 (by omega);obtain rfl:=Qm hx2 hz;omega) | (simp_all;done))
   refine VRunD.free Y (VWant.on Y Y (nz fhg40_4)) Y (OF.fieldAddrO (tv (T.op 0 0) Y) Zf) (VRunD.look Y (VWant.on Y Y (nz fhg40_4)) Y (OL.loadO1 (t:=(tS x1.Letter)) (tv (T.op 0 1) Y) Y Y st9) (VRunD.quiet (bi:= [26,24,22,20,21,23,18,7,5,6,16,14,15,12,8,10,9,11,13,17,3,1,0,2,4,19,25,27]) Y (VWant.on Y Y (nz fhg40_4)) Y Y Y bn (cS (vc (tv (tS x1.Letter) Y) vn) (ZM Y) (Yt (n+0) x1.Letter (by first | exact hw _ (List.mem_of_getElem? hx1) | assumption | omega)) Y Y) (VRunD.free Y (VWant.on Y Y (nz fhg40_4)) Y (QU (tv (tB (decide (Zu x1.Letter))) Y)) (fD (OF.pickF (VEv.tmpB Y (nz fhg40_4)) (tv (tB (!(decide (Zu x1.Letter)))) Y)) Y Y (mD (tB (!(decide (Zu x1.Letter)))) Y Y ?_)))))
   refine gn (Zu x1.Letter) (fun fhg46_5=> ?_) fun fhg46_5=> ?_
   ·refine oD Y Y (ny fhg46_5) Y ?_
    refine oD Y Y (ny fhg46_5) Y (oD Y Y (ny fhg46_5) Y (oD Y Y (ny fhg46_5) Y (fD (OF.pickT (VEv.tmpB Y (ny fhg46_5)) (VEv.bool true)) Y Y (mD (tB true) Y Y (VRunD.off Y (VWant.not (b:=true) Y Y Y) (VRunD.off Y (VWant.not (b:=true) Y Y Y) (VRunD.off Y (VWant.not (b:=true) Y Y Y) (VRunD.off Y (VWant.not (b:=true) Y Y Y) (fD (OF.pickT (tv (tB true) Y) (VEv.bool true)) Y Y (VRunD.nil (tn ?_)))))))))))
    refine ct Y (sr (fO (OF.assign (VEv.bool false)) (nt (rt (vinB.r (tr (tr (vinB.r (tr (vb (b':=false) Y ?_))))))))))
    first | (refine ZH ⟨fun h=>⟨by omega,QX hI' fhc0⟩,fun h=>by have:=h.1;omega⟩) | (symm;rw [decide_eq_false_iff_not];rintro ⟨_,h2⟩;obtain ⟨y,hy,h3,h4,h5,h6,h7,h8⟩:=h2 i fhc0;obtain rfl:=Qm hx1 hy;first | omega | contradiction | (obtain ⟨z,hz,h9⟩:=h8 (by omega);obtain rfl:=Qm hx2 hz;omega) | (simp_all;done))
   refine VRunD.free Y (VWant.on Y Y (nz fhg46_5)) Y (OF.fieldAddrO (tv (T.op 0 0) Y) Zg) (VRunD.look Y (VWant.on Y Y (nz fhg46_5)) Y (OL.loadO1 (t:=(tI x1.Tick)) (tv (T.op 0 2) Y) Y Y ZE) (VRunD.quiet (bi:= [32,30,28,26,27,29,24,22,20,21,23,18,7,5,6,16,14,15,12,8,10,9,11,13,17,3,1,0,2,4,19,25,31,33]) Y (VWant.on Y Y (nz fhg46_5)) Y Y Y bn (cS (vc (tv (tI x1.Tick) Y) (vc (VEv.int .i64 0) (vc (VEv.int .i64 1000) vn))) (ZM Y) (Zr (n+1) x1.Tick 0 1000) Y Y) (VRunD.free Y (VWant.on Y Y (nz fhg46_5)) Y (QU (tv (tB (decide (0≤x1.Tick∧x1.Tick≤1000))) Y)) (fD (OF.pickF (VEv.tmpB Y (nz fhg46_5)) (tv (tB (!(decide (0≤x1.Tick∧x1.Tick≤1000)))) Y)) Y Y (mD (tB (!(decide (0≤x1.Tick∧x1.Tick≤1000)))) Y Y ?_)))))
   refine gn (0≤x1.Tick∧x1.Tick≤1000) (fun fhg52_6=> ?_) fun fhg52_6=> ?_
   ·refine oD Y Y (ny fhg52_6) Y ?_
    refine oD Y Y (ny fhg52_6) Y (oD Y Y (ny fhg52_6) Y (oD Y Y (ny fhg52_6) Y (fD (OF.pickT (VEv.tmpB Y (ny fhg52_6)) (VEv.bool true)) Y Y (VRunD.nil (tn (ct Y (sr (fO (OF.assign (VEv.bool false)) (nt (rt (vinB.r ?_)))))))))))
    refine tr (tr (vinB.r (tr (vb (b':=false) Y ?_))))
    first | (refine ZH ⟨fun h=>⟨by omega,QX hI' fhc0⟩,fun h=>by have:=h.1;omega⟩) | (symm;rw [decide_eq_false_iff_not];rintro ⟨_,h2⟩;obtain ⟨y,hy,h3,h4,h5,h6,h7,h8⟩:=h2 i fhc0;obtain rfl:=Qm hx1 hy;first | omega | contradiction | (obtain ⟨z,hz,h9⟩:=h8 (by omega);obtain rfl:=Qm hx2 hz;omega) | (simp_all;done))
   refine VRunD.free Y (VWant.on Y Y (nz fhg52_6)) Y (OF.fieldAddrO (tv (T.op 0 0) Y) Zi) (VRunD.look Y (VWant.on Y Y (nz fhg52_6)) Y (OL.loadO1 (t:=(tI x1.Who)) (tv (T.op 0 3) Y) Y Y ZE) (VRunD.quiet (bi:= [38,36,34,32,33,35,30,28,26,27,29,24,22,20,21,23,18,7,5,6,16,14,15,12,8,10,9,11,13,17,3,1,0,2,4,19,25,31,37,39]) Y (VWant.on Y Y (nz fhg52_6)) Y Y Y bn (cS (vc (tv (tI x1.Who) Y) (vc (VEv.int .i64 1) (vc (VEv.int .i64 9) vn))) (ZM Y) (Zr (n+1) x1.Who 1 9) Y Y) (VRunD.free Y (VWant.on Y Y (nz fhg52_6)) Y (QU (tv (tB (decide (1≤x1.Who∧x1.Who≤9))) Y)) (fD (OF.pickF (VEv.tmpB Y (nz fhg52_6)) (tv (tB (!(decide (1≤x1.Who∧x1.Who≤9)))) Y)) Y Y (VRunD.nil (tn ?_))))))
   refine cn (1≤x1.Who∧x1.Who≤9) Y (fun fhc1=> ?_) fun fhc1=> ?_
   ·refine sr ?_
    refine fO (OF.assign (VEv.bool false)) (nt (rt (vinB.r (tr (tr (vinB.r (tr (vb (b':=false) Y ?_))))))))
    first | (refine ZH ⟨fun h=>⟨by omega,QX hI' fhc0⟩,fun h=>by have:=h.1;omega⟩) | (symm;rw [decide_eq_false_iff_not];rintro ⟨_,h2⟩;obtain ⟨y,hy,h3,h4,h5,h6,h7,h8⟩:=h2 i fhc0;obtain rfl:=Qm hx1 hy;first | omega | contradiction | (obtain ⟨z,hz,h9⟩:=h8 (by omega);obtain rfl:=Qm hx2 hz;omega) | (simp_all;done))
   refine sk (vinB.n (tn (VRun.region (mO (tN i) Y (fO (ZQ (tv (tN i) Y) (VEv.int .i64 1) (by first | exact hw _ (List.mem_of_getElem? hx1) | omega)) (aO (tN (i+1)) Y (VRunO.nil (tn ?_))))))))
   refine ⟨(i+1:Nat),?_,?_,Wk.mk (fun k=>k) ?_ ?_ ?_⟩
   ·refine Yd hI0 fhc0 ⟨x1,hx1,by omega,by omega,by assumption,by omega,by omega,fun h0=> ?_⟩
    first | (exact absurd h0 (by omega)) | (exact ⟨x2,hx2,by omega⟩)
   ·first | omega | (simp only [];omega) | (show _<_;omega) | (simp;omega)
   ·exact (b2 (b2 bn))
   ·exact bn
   ·exact nd Y
  refine oD Y Y (dz fhg22_2) Y (oD Y Y (dz fhg22_2) Y (oD Y Y (dz fhg22_2) Y (oD Y Y (dz fhg22_2) Y (oD Y Y (dz fhg22_2) Y (oD Y Y (dz fhg22_2) Y (oD Y Y (dz fhg22_2) Y (oD Y Y (dz fhg22_2) Y (oD Y Y (dz fhg22_2) Y (VRunD.free Y (VWant.on Y Y (nz fhg19_1)) Y (OF.pickF (VEv.tmpB Y (dz fhg22_2)) (VEv.bool false)) (fD (OF.pickF (VEv.tmpB Y (nz fhg19_1)) (tv (tB false) Y)) Y Y (mD (tB false) Y Y ?_)))))))))))
  refine VRunD.free Y (VWant.on (b:=false) Y Y Y) Y (OF.fieldAddrO (tv (T.op 0 0) Y) Zf) (VRunD.look Y (VWant.on (b:=false) Y Y Y) Y (OL.loadO1 (t:=(tS x1.Letter)) (tv (T.op 0 1) Y) Y Y st9) (VRunD.look Y (VWant.on (b:=false) Y Y Y) Y (B.lenS (tv (tS x1.Letter) Y) U9) (VRunD.free Y (VWant.on (b:=false) Y Y Y) Y (B.neq (c:=(!(decide (x1.Letter.size=1)))) (tv (tN x1.Letter.size) Y) (VEv.int .i64 1) (by first | exact hw _ (List.mem_of_getElem? hx1) | (exact Qcl (by omega)))) (fD (OF.pickF (tv (tB false) Y) (tv (tB (!(decide (x1.Letter.size=1)))) Y)) Y Y (mD (tB (!(decide (x1.Letter.size=1)))) Y Y ?_)))))
  refine gn (x1.Letter.size=1) (fun fhg40_7=> ?_) fun fhg40_7=> ?_
  ·refine oD Y Y (ny fhg40_7) Y ?_
   refine oD Y Y (ny fhg40_7) Y (oD Y Y (ny fhg40_7) Y (oD Y Y (ny fhg40_7) Y (fD (OF.pickT (VEv.tmpB Y (ny fhg40_7)) (VEv.bool true)) Y Y (mD (tB true) Y Y (VRunD.off Y (VWant.not (b:=true) Y Y Y) (VRunD.off Y (VWant.not (b:=true) Y Y Y) (VRunD.off Y (VWant.not (b:=true) Y Y Y) (VRunD.off Y (VWant.not (b:=true) Y Y Y) (fD (OF.pickT (tv (tB true) Y) (VEv.bool true)) Y Y (mD (tB true) Y Y (VRunD.off Y (VWant.not (b:=true) Y Y Y) ?_)))))))))))
   refine VRunD.off Y (VWant.not (b:=true) Y Y Y) (VRunD.off Y (VWant.not (b:=true) Y Y Y) (VRunD.off Y (VWant.not (b:=true) Y Y Y) (fD (OF.pickT (tv (tB true) Y) (VEv.bool true)) Y Y (VRunD.nil (tn (ct Y (sr (fO (OF.assign (VEv.bool false)) (nt (rt (vinB.r ?_)))))))))))
   refine tr (tr (vinB.r (tr (vb (b':=false) Y ?_))))
   first | (refine ZH ⟨fun h=>⟨by omega,QX hI' fhc0⟩,fun h=>by have:=h.1;omega⟩) | (symm;rw [decide_eq_false_iff_not];rintro ⟨_,h2⟩;obtain ⟨y,hy,h3,h4,h5,h6,h7,h8⟩:=h2 i fhc0;obtain rfl:=Qm hx1 hy;first | omega | contradiction | (obtain ⟨z,hz,h9⟩:=h8 (by omega);obtain rfl:=Qm hx2 hz;omega) | (simp_all;done))
  refine VRunD.free Y (VWant.on Y Y (nz fhg40_7)) Y (OF.fieldAddrO (tv (T.op 0 0) Y) Zf) (VRunD.look Y (VWant.on Y Y (nz fhg40_7)) Y (OL.loadO1 (t:=(tS x1.Letter)) (tv (T.op 0 1) Y) Y Y st9) (VRunD.quiet (bi:= [26,24,22,20,21,23,18,7,5,6,16,14,15,12,8,10,9,11,13,17,3,1,0,2,4,19,25,27]) Y (VWant.on Y Y (nz fhg40_7)) Y Y Y bn (cS (vc (tv (tS x1.Letter) Y) vn) (ZM Y) (Yt (n+0) x1.Letter (by first | exact hw _ (List.mem_of_getElem? hx1) | assumption | omega)) Y Y) (VRunD.free Y (VWant.on Y Y (nz fhg40_7)) Y (QU (tv (tB (decide (Zu x1.Letter))) Y)) (fD (OF.pickF (VEv.tmpB Y (nz fhg40_7)) (tv (tB (!(decide (Zu x1.Letter)))) Y)) Y Y (mD (tB (!(decide (Zu x1.Letter)))) Y Y ?_)))))
  refine gn (Zu x1.Letter) (fun fhg46_8=> ?_) fun fhg46_8=> ?_
  ·refine oD Y Y (ny fhg46_8) Y ?_
   refine oD Y Y (ny fhg46_8) Y (oD Y Y (ny fhg46_8) Y (oD Y Y (ny fhg46_8) Y (fD (OF.pickT (VEv.tmpB Y (ny fhg46_8)) (VEv.bool true)) Y Y (mD (tB true) Y Y (VRunD.off Y (VWant.not (b:=true) Y Y Y) (VRunD.off Y (VWant.not (b:=true) Y Y Y) (VRunD.off Y (VWant.not (b:=true) Y Y Y) (VRunD.off Y (VWant.not (b:=true) Y Y Y) (fD (OF.pickT (tv (tB true) Y) (VEv.bool true)) Y Y (VRunD.nil (tn ?_)))))))))))
   refine ct Y (sr (fO (OF.assign (VEv.bool false)) (nt (rt (vinB.r (tr (tr (vinB.r (tr (vb (b':=false) Y ?_))))))))))
   first | (refine ZH ⟨fun h=>⟨by omega,QX hI' fhc0⟩,fun h=>by have:=h.1;omega⟩) | (symm;rw [decide_eq_false_iff_not];rintro ⟨_,h2⟩;obtain ⟨y,hy,h3,h4,h5,h6,h7,h8⟩:=h2 i fhc0;obtain rfl:=Qm hx1 hy;first | omega | contradiction | (obtain ⟨z,hz,h9⟩:=h8 (by omega);obtain rfl:=Qm hx2 hz;omega) | (simp_all;done))
  refine VRunD.free Y (VWant.on Y Y (nz fhg46_8)) Y (OF.fieldAddrO (tv (T.op 0 0) Y) Zg) (VRunD.look Y (VWant.on Y Y (nz fhg46_8)) Y (OL.loadO1 (t:=(tI x1.Tick)) (tv (T.op 0 2) Y) Y Y ZE) (VRunD.quiet (bi:= [32,30,28,26,27,29,24,22,20,21,23,18,7,5,6,16,14,15,12,8,10,9,11,13,17,3,1,0,2,4,19,25,31,33]) Y (VWant.on Y Y (nz fhg46_8)) Y Y Y bn (cS (vc (tv (tI x1.Tick) Y) (vc (VEv.int .i64 0) (vc (VEv.int .i64 1000) vn))) (ZM Y) (Zr (n+1) x1.Tick 0 1000) Y Y) (VRunD.free Y (VWant.on Y Y (nz fhg46_8)) Y (QU (tv (tB (decide (0≤x1.Tick∧x1.Tick≤1000))) Y)) (fD (OF.pickF (VEv.tmpB Y (nz fhg46_8)) (tv (tB (!(decide (0≤x1.Tick∧x1.Tick≤1000)))) Y)) Y Y (mD (tB (!(decide (0≤x1.Tick∧x1.Tick≤1000)))) Y Y ?_)))))
  refine gn (0≤x1.Tick∧x1.Tick≤1000) (fun fhg52_9=> ?_) fun fhg52_9=> ?_
  ·refine oD Y Y (ny fhg52_9) Y ?_
   refine oD Y Y (ny fhg52_9) Y (oD Y Y (ny fhg52_9) Y (oD Y Y (ny fhg52_9) Y (fD (OF.pickT (VEv.tmpB Y (ny fhg52_9)) (VEv.bool true)) Y Y (VRunD.nil (tn (ct Y (sr (fO (OF.assign (VEv.bool false)) (nt (rt (vinB.r ?_)))))))))))
   refine tr (tr (vinB.r (tr (vb (b':=false) Y ?_))))
   first | (refine ZH ⟨fun h=>⟨by omega,QX hI' fhc0⟩,fun h=>by have:=h.1;omega⟩) | (symm;rw [decide_eq_false_iff_not];rintro ⟨_,h2⟩;obtain ⟨y,hy,h3,h4,h5,h6,h7,h8⟩:=h2 i fhc0;obtain rfl:=Qm hx1 hy;first | omega | contradiction | (obtain ⟨z,hz,h9⟩:=h8 (by omega);obtain rfl:=Qm hx2 hz;omega) | (simp_all;done))
  refine VRunD.free Y (VWant.on Y Y (nz fhg52_9)) Y (OF.fieldAddrO (tv (T.op 0 0) Y) Zi) (VRunD.look Y (VWant.on Y Y (nz fhg52_9)) Y (OL.loadO1 (t:=(tI x1.Who)) (tv (T.op 0 3) Y) Y Y ZE) (VRunD.quiet (bi:= [38,36,34,32,33,35,30,28,26,27,29,24,22,20,21,23,18,7,5,6,16,14,15,12,8,10,9,11,13,17,3,1,0,2,4,19,25,31,37,39]) Y (VWant.on Y Y (nz fhg52_9)) Y Y Y bn (cS (vc (tv (tI x1.Who) Y) (vc (VEv.int .i64 1) (vc (VEv.int .i64 9) vn))) (ZM Y) (Zr (n+1) x1.Who 1 9) Y Y) (VRunD.free Y (VWant.on Y Y (nz fhg52_9)) Y (QU (tv (tB (decide (1≤x1.Who∧x1.Who≤9))) Y)) (fD (OF.pickF (VEv.tmpB Y (nz fhg52_9)) (tv (tB (!(decide (1≤x1.Who∧x1.Who≤9)))) Y)) Y Y (VRunD.nil (tn ?_))))))
  refine cn (1≤x1.Who∧x1.Who≤9) Y (fun fhc1=> ?_) fun fhc1=> ?_
  ·refine sr ?_
   refine fO (OF.assign (VEv.bool false)) (nt (rt (vinB.r (tr (tr (vinB.r (tr (vb (b':=false) Y ?_))))))))
   first | (refine ZH ⟨fun h=>⟨by omega,QX hI' fhc0⟩,fun h=>by have:=h.1;omega⟩) | (symm;rw [decide_eq_false_iff_not];rintro ⟨_,h2⟩;obtain ⟨y,hy,h3,h4,h5,h6,h7,h8⟩:=h2 i fhc0;obtain rfl:=Qm hx1 hy;first | omega | contradiction | (obtain ⟨z,hz,h9⟩:=h8 (by omega);obtain rfl:=Qm hx2 hz;omega) | (simp_all;done))
  refine sk (vinB.n (tn (VRun.region (mO (tN i) Y (fO (ZQ (tv (tN i) Y) (VEv.int .i64 1) (by first | exact hw _ (List.mem_of_getElem? hx1) | omega)) (aO (tN (i+1)) Y (VRunO.nil (tn ?_))))))))
  refine ⟨(i+1:Nat),?_,?_,Wk.mk (fun k=>k) ?_ ?_ ?_⟩
  ·refine Yd hI0 fhc0 ⟨x1,hx1,by omega,by omega,by assumption,by omega,by omega,fun h0=> ?_⟩
   first | (exact absurd h0 (by omega)) | (exact ⟨x2,hx2,by omega⟩)
  ·first | omega | (simp only [];omega) | (show _<_;omega) | (simp;omega)
  ·exact (b2 (b2 bn))
  ·exact bn
  ·exact nd Y
 refine VRun.exit (vthn.e (vthn.e (vinB.e (tn (sr (mO (rd 4 Qa a) Y (lO (B.lenR (m:=a.length) (tv (rd 4 Qa a) Y) QD (List.length_map ..)) (fO (B.leq (c:=(decide (a.length≤40))) (tv (tN a.length) Y) (VEv.int .i64 40) (by first | exact hw _ (List.mem_of_getElem? hx1) | (exact ZH (by omega)))) (aO (tB (decide (a.length≤40))) Y (nt (rt ?_)))))))))))
 refine vb (b':=(decide (a.length≤40))) Y ?_
 first | (refine ZH ⟨fun h=>⟨by omega,QX hI' fhc0⟩,fun h=>by have:=h.1;omega⟩) | (symm;rw [decide_eq_false_iff_not];rintro ⟨_,h2⟩;obtain ⟨y,hy,h3,h4,h5,h6,h7,h8⟩:=h2 i fhc0;obtain rfl:=Qm hx1 hy;first | omega | contradiction | (obtain ⟨z,hz,h9⟩:=h8 (by omega);obtain rfl:=Qm hx2 hz;omega) | (simp_all;done))
theorem Qx (n:Nat) (a:List D.Note) (hz:zL Qj a≤2*mx):Pure (QJ Try.prog (n+3)) 31 [(rd 4 Qa a)] (tB (decide (Qb a))):=by
 refine Pure.intro (rs:= [ResultVar.tmp 2]) Try.func31 Y Y Y (E0:= [(0,(rd 4 Qa a))]) Y ?_
 obtain ⟨hlim,hmx,hmax⟩:=ZS
 have ha:=Z2 (z:=Qj) a
 have hw:∀x∈a,x.Letter.size≤maxLen:=fun x hx=>by have h1:=Qc7 (z:=Qj) hx;simp only [Qj] at h1;omega
 refine sr (fO (OF.assign (VEv.bool false)) (nt (sq (sr (mO (rd 4 Qa a) Y (lO (B.lenR (m:=a.length) (tv (rd 4 Qa a) Y) QD (List.length_map ..)) (fO (B.gtr (c:=(decide (40<a.length))) (tv (tN a.length) Y) (VEv.int .i64 40) (by first | exact hw _ (List.mem_of_getElem? hx1) | (exact ZH (by omega)))) (nt ?_))))))))
 refine cd (40<a.length) Y (fun fhc0=> ?_) fun fhc0=> ?_
 ·refine sr ?_
  refine fO (OF.assign (VEv.bool false)) (nt (rt (tr (vb (b':=false) Y ?_))))
  first | (symm;rw [decide_eq_false_iff_not];rintro ⟨h2,_⟩;omega) | (symm;rw [decide_eq_true_eq];exact ⟨by omega,QX hI' fhc1⟩) | (symm;rw [decide_eq_false_iff_not];rintro ⟨_,h2⟩;obtain ⟨y,hy,h3,h4,h5,h6,h7,h8⟩:=h2 i fhc1;obtain rfl:=Qm hx1 hy;first | omega | contradiction | (obtain ⟨z,hz,h9⟩:=h8 (by omega);obtain rfl:=Qm hx2 hz;omega) | (simp_all;done))
 refine sk (tn (sq (sr (mO (rd 4 Qa a) Y (lO (B.lenR (m:=a.length) (tv (rd 4 Qa a) Y) QD (List.length_map ..)) (fO (OF.move (VEv.int .i64 0)) (nt (VRun.block ?_))))))))
 refine VRun.loop (A:=Nat) (fun s_=> [(0,(rd 4 Qa a)),(8,(rd 4 Qa a)),(9,(tN a.length)),(10,(tN s_))]) (fun s_=>Jz []) 0 (fun s_=>s_≤a.length∧∀j,j<s_→Qad a j) (fun s_=>a.length - s_) (0:Nat) ?_ (Wk.mk (fun k=>k) ?_ ?_ ?_) ?_
 ·exact ⟨Nat.zero_le _,fun j hj=>by omega⟩
 ·exact (b2 (b2 (b2 (b2 bn))))
 ·exact bn
 ·exact nd Y
 rintro i (hI':i≤a.length∧∀j,j<i→Qad a j)
 show VRun _ _ _ [(0,(rd 4 Qa a)),(8,(rd 4 Qa a)),(9,(tN a.length)),(10,(tN i))] (Jz []) 0 _
 have hI0:=hI'
 refine sr (fO (JG (tv (tN i) Y) (tv (tN a.length) Y)) (nt (sq ?_)))
 refine cd (i<a.length) Y (fun fhc1=> ?_) fun fhc1=> ?_
 ·refine sk ?_
  refine tn (sq (VRun.block (sr (mO (tN i) Y ?_))))
  obtain ⟨x1,hx1⟩:∃x,a[i]? =some x:=⟨_,List.getElem?_eq_getElem (by first | exact hw _ (List.mem_of_getElem? hx1) | omega)⟩
  refine fO (OF.indexAddrR (row:=(Qa false x1)) (i:=i) (tv (rd 4 Qa a) Y) (tv (tN i) Y) Y (QK _ hx1) QD Qg Q3) (lO (OL.loadRn (us:=(Qa false x1)) (tv (T.rp (Qa false x1)) Y) Zx Qg (lb Y) Y) (kO (B.alloc (t:=(T.agg [(tN 0),(tS ByteArray.empty),(tN 0),(tN 0)])) (ts:= [(tN 0),(tS ByteArray.empty),(tN 0),(tN 0)]) QF QcK nofun (fun _=> .agg _ _ Y (Qa0 (RL.cons (.int _ _) (RL.cons (.str _) (RL.cons (.int _ _) (RL.cons (.int _ _) (RL.nil _))))))) Y) (aO (tN i) Y (cO (B.storeW (us:=(Qa false x1)) (tv (T.op 0 0) Y) (tv (T.agg (Qa false x1)) Y) nofun Y Y Y Q3 Qg (bc Y (bc Y (bc Y (bc Y bn))))) (nt (sq (VRun.draw (B:= [[],[0],[0,1],[1,0,2],[1,0,2],[2,0,1,4],[4,5,2,0,1,3],[3,1,0,2,5,4,6],[6,4,5,2,0,1,3,7],[1,0,2],[2,0,1,9],[9,10,7,3,1,0,2,5,4,6,8],[8,6,4,5,3,7,10,9,11,1,0,2],[2,0,1,11,9,10,7,3,5,4,6,8,12],[12,8,6,4,5,3,7,10,9,11,1,0,2,13],[13,2,0,1,11,9,10,7,3,5,4,6,8,12,14],[14,12,8,6,4,5,3,7,10,9,11,1,0,2,13,15],[15,13,2,0,1,11,9,10,7,3,5,4,6,8,12,14,16],[16,14,15,17,12,8,6,4,5,3,7,10,9,11,1,0,2,13],[13,2,0,1,11,9,10,7,3,5,4,6,8,12,17,15,14,16,18],[18,16,14,15,17,12,8,6,4,5,3,7,10,9,11,1,0,2,13,19],[19,13,2,0,1,11,9,10,7,3,5,4,6,8,12,17,15,14,16,18,20],[20,18,16,14,15,17,12,8,6,4,5,3,7,10,9,11,1,0,2,13,19,21],[21,19,13,2,0,1,11,9,10,7,3,5,4,6,8,12,17,15,14,16,18,20,22],[22,20,21,23,18,16,14,15,17,12,8,6,4,5,3,7,10,9,11,1,0,2,13,19],[19,13,2,0,1,11,9,10,7,3,5,4,6,8,12,17,15,14,16,18,23,21,20,22,24],[24,22,20,21,23,18,16,14,15,17,12,8,6,4,5,3,7,10,9,11,1,0,2,13,19,25],[25,19,13,2,0,1,11,9,10,7,3,5,4,6,8,12,17,15,14,16,18,23,21,20,22,24,26],[26,24,22,20,21,23,18,16,14,15,17,12,8,6,4,5,3,7,10,9,11,1,0,2,13,19,25,27],[27,25,19,13,2,0,1,11,9,10,7,3,5,4,6,8,12,17,15,14,16,18,23,21,20,22,24,26,28],[28,26,27,29,24,22,20,21,23,18,16,14,15,17,12,8,6,4,5,3,7,10,9,11,1,0,2,13,19,25],[25,19,13,2,0,1,11,9,10,7,3,5,4,6,8,12,17,15,14,16,18,23,21,20,22,24,29,27,26,28,30],[30,28,26,27,29,24,22,20,21,23,18,16,14,15,17,12,8,6,4,5,3,7,10,9,11,1,0,2,13,19,25,31],[31,25,19,13,2,0,1,11,9,10,7,3,5,4,6,8,12,17,15,14,16,18,23,21,20,22,24,29,27,26,28,30,32],[32,30,28,26,27,29,24,22,20,21,23,18,16,14,15,17,12,8,6,4,5,3,7,10,9,11,1,0,2,13,19,25,31,33],[33,31,25,19,13,2,0,1,11,9,10,7,3,5,4,6,8,12,17,15,14,16,18,23,21,20,22,24,29,27,26,28,30,32,34],[34,32,33,35,30,28,26,27,29,24,22,20,21,23,18,16,14,15,17,12,8,6,4,5,3,7,10,9,11,1,0,2,13,19,25,31],[31,25,19,13,2,0,1,11,9,10,7,3,5,4,6,8,12,17,15,14,16,18,23,21,20,22,24,29,27,26,28,30,35,33,32,34,36],[36,34,32,33,35,30,28,26,27,29,24,22,20,21,23,18,16,14,15,17,12,8,6,4,5,3,7,10,9,11,1,0,2,13,19,25,31,37],[37,31,25,19,13,2,0,1,11,9,10,7,3,5,4,6,8,12,17,15,14,16,18,23,21,20,22,24,29,27,26,28,30,35,33,32,34,36,38],[38,36,34,32,33,35,30,28,26,27,29,24,22,20,21,23,18,16,14,15,17,12,8,6,4,5,3,7,10,9,11,1,0,2,13,19,25,31,37,39],[39,37,31,25,19,13,2,0,1,11,9,10,7,3,5,4,6,8,12,17,15,14,16,18,23,21,20,22,24,29,27,26,28,30,35,33,32,34,36,38,40],[40,38,39,41,36,34,32,33,35,30,28,26,27,29,24,22,20,21,23,18,16,14,15,17,12,8,6,4,5,3,7,10,9,11,1,0,2,13,19,25,31,37]]) (by kernel_rfl) (by kernel_rfl) ?_)))))))
  refine mD (tN i) Y Y (fD (B.gtr (c:=(decide (0<i))) (tv (tN i) Y) (VEv.int .i64 0) (by first | exact hw _ (List.mem_of_getElem? hx1) | (exact ZH (by omega)))) Y Y (mD (tB (decide (0<i))) Y Y ?_))
  refine gw (0<i) (fun fhg17_1=> ?_) fun fhg17_1=> ?_
  ·refine VRunD.free Y (VWant.on Y Y (dy fhg17_1)) Y (OF.move (tv (rd 4 Qa a) Y)) ?_
   refine VRunD.free Y (VWant.on Y Y (dy fhg17_1)) Y (OF.move (tv (tN i) Y)) (VRunD.free Y (VWant.on Y Y (dy fhg17_1)) Y (B.sub (n:=((i - 1:Nat):Int)) (tv (tN i) Y) (VEv.int .i64 1) (by first | exact hw _ (List.mem_of_getElem? hx1) | rfl | (rw [Z7 (by omega)];omega) | (rw [Z7 (by omega)];done))) ?_)
   obtain ⟨x2,hx2⟩:∃x,a[i - 1]? =some x:=⟨_,List.getElem?_eq_getElem (by first | exact hw _ (List.mem_of_getElem? hx1) | omega)⟩
   refine VRunD.free Y (VWant.on Y Y (dy fhg17_1)) Y (OF.indexAddrR (row:=(Qa false x2)) (i:=i - 1) (tv (rd 4 Qa a) Y) (tv (tN (i - 1)) Y) Y (QK _ hx2) QD Qg Q3) (VRunD.free Y (VWant.on Y Y (dy fhg17_1)) Y (B.fieldAddrR (us:=(Qa false x2)) (tv (T.rp (Qa false x2)) Y) (lb Y) QY Y) (VRunD.look Y (VWant.on Y Y (dy fhg17_1)) Y (OL.loadR1 (t:=(tI x2.Cell)) (tv (T.rp (Qa false x2)) Y) Y ZE) (VRunD.free Y (VWant.on Y Y (dy fhg17_1)) Y (OF.fieldAddrO (tv (T.op 0 0) Y) QY) (VRunD.look Y (VWant.on Y Y (dy fhg17_1)) Y (OL.loadO1 (t:=(tI x1.Cell)) (tv (T.op 0 0) Y) Y Y ZE) (VRunD.free Y (VWant.on Y Y (dy fhg17_1)) Y (xge (tv (tI x2.Cell) Y) (tv (tI x1.Cell) Y)) (fD (OF.pickT (VEv.tmpB Y (dy fhg17_1)) (tv (tB (decide (x1.Cell≤x2.Cell))) Y)) Y Y (mD (tB (decide (x1.Cell≤x2.Cell))) Y Y ?_)))))))
   refine gw (x1.Cell≤x2.Cell) (fun fhg28_2=> ?_) fun fhg28_2=> ?_
   ·refine oD Y Y (dy fhg28_2) Y ?_
    refine oD Y Y (dy fhg28_2) Y (oD Y Y (dy fhg28_2) Y (oD Y Y (dy fhg28_2) Y (fD (OF.pickT (VEv.tmpB Y (dy fhg28_2)) (VEv.bool true)) Y Y (mD (tB true) Y Y (VRunD.off Y (VWant.not (b:=true) Y Y Y) (VRunD.off Y (VWant.not (b:=true) Y Y Y) (VRunD.off Y (VWant.not (b:=true) Y Y Y) (VRunD.off Y (VWant.not (b:=true) Y Y Y) (fD (OF.pickT (tv (tB true) Y) (VEv.bool true)) Y Y (mD (tB true) Y Y (VRunD.off Y (VWant.not (b:=true) Y Y Y) ?_)))))))))))
    refine VRunD.off Y (VWant.not (b:=true) Y Y Y) (VRunD.off Y (VWant.not (b:=true) Y Y Y) (VRunD.off Y (VWant.not (b:=true) Y Y Y) (fD (OF.pickT (tv (tB true) Y) (VEv.bool true)) Y Y (mD (tB true) Y Y (VRunD.off Y (VWant.not (b:=true) Y Y Y) (VRunD.off Y (VWant.not (b:=true) Y Y Y) (VRunD.off Y (VWant.not (b:=true) Y Y Y) (VRunD.off Y (VWant.not (b:=true) Y Y Y) (fD (OF.pickT (tv (tB true) Y) (VEv.bool true)) Y Y (mD (tB true) Y Y (VRunD.off Y (VWant.not (b:=true) Y Y Y) ?_)))))))))))
    refine VRunD.off Y (VWant.not (b:=true) Y Y Y) (VRunD.off Y (VWant.not (b:=true) Y Y Y) (VRunD.off Y (VWant.not (b:=true) Y Y Y) (fD (OF.pickT (tv (tB true) Y) (VEv.bool true)) Y Y (VRunD.nil (tn (ct Y (sr (fO (OF.assign (VEv.bool false)) (nt (rt (vinB.r ?_)))))))))))
    refine tr (tr (vinB.r (tr (vb (b':=false) Y ?_))))
    first | (symm;rw [decide_eq_false_iff_not];rintro ⟨h2,_⟩;omega) | (symm;rw [decide_eq_true_eq];exact ⟨by omega,QX hI' fhc1⟩) | (symm;rw [decide_eq_false_iff_not];rintro ⟨_,h2⟩;obtain ⟨y,hy,h3,h4,h5,h6,h7,h8⟩:=h2 i fhc1;obtain rfl:=Qm hx1 hy;first | omega | contradiction | (obtain ⟨z,hz,h9⟩:=h8 (by omega);obtain rfl:=Qm hx2 hz;omega) | (simp_all;done))
   refine VRunD.free Y (VWant.on Y Y (dz fhg28_2)) Y (OF.fieldAddrO (tv (T.op 0 0) Y) QY) (VRunD.look Y (VWant.on Y Y (dz fhg28_2)) Y (OL.loadO1 (t:=(tI x1.Cell)) (tv (T.op 0 0) Y) Y Y ZE) (VRunD.quiet (bi:= [14,12,8,6,4,5,3,7,10,9,11,1,0,2,13,15]) Y (VWant.on Y Y (dz fhg28_2)) Y Y Y bn (cS (vc (tv (tI x1.Cell) Y) (vc (VEv.int .i64 0) (vc (VEv.int .i64 35) vn))) (ZM Y) (Q1 (n+1) x1.Cell 0 35) Y Y) (VRunD.free Y (VWant.on Y Y (dz fhg28_2)) Y (QU (tv (tB (decide (0≤x1.Cell∧x1.Cell≤35))) Y)) (fD (OF.pickF (VEv.tmpB Y (dz fhg28_2)) (tv (tB (!(decide (0≤x1.Cell∧x1.Cell≤35)))) Y)) Y Y (mD (tB (!(decide (0≤x1.Cell∧x1.Cell≤35)))) Y Y ?_)))))
   refine gn (0≤x1.Cell∧x1.Cell≤35) (fun fhg34_3=> ?_) fun fhg34_3=> ?_
   ·refine oD Y Y (ny fhg34_3) Y ?_
    refine oD Y Y (ny fhg34_3) Y (oD Y Y (ny fhg34_3) Y (oD Y Y (ny fhg34_3) Y (fD (OF.pickT (VEv.tmpB Y (ny fhg34_3)) (VEv.bool true)) Y Y (mD (tB true) Y Y (VRunD.off Y (VWant.not (b:=true) Y Y Y) (VRunD.off Y (VWant.not (b:=true) Y Y Y) (VRunD.off Y (VWant.not (b:=true) Y Y Y) (VRunD.off Y (VWant.not (b:=true) Y Y Y) (fD (OF.pickT (tv (tB true) Y) (VEv.bool true)) Y Y (mD (tB true) Y Y (VRunD.off Y (VWant.not (b:=true) Y Y Y) ?_)))))))))))
    refine VRunD.off Y (VWant.not (b:=true) Y Y Y) (VRunD.off Y (VWant.not (b:=true) Y Y Y) (VRunD.off Y (VWant.not (b:=true) Y Y Y) (fD (OF.pickT (tv (tB true) Y) (VEv.bool true)) Y Y (mD (tB true) Y Y (VRunD.off Y (VWant.not (b:=true) Y Y Y) (VRunD.off Y (VWant.not (b:=true) Y Y Y) (VRunD.off Y (VWant.not (b:=true) Y Y Y) (VRunD.off Y (VWant.not (b:=true) Y Y Y) (fD (OF.pickT (tv (tB true) Y) (VEv.bool true)) Y Y (VRunD.nil (tn ?_)))))))))))
    refine ct Y (sr (fO (OF.assign (VEv.bool false)) (nt (rt (vinB.r (tr (tr (vinB.r (tr (vb (b':=false) Y ?_))))))))))
    first | (symm;rw [decide_eq_false_iff_not];rintro ⟨h2,_⟩;omega) | (symm;rw [decide_eq_true_eq];exact ⟨by omega,QX hI' fhc1⟩) | (symm;rw [decide_eq_false_iff_not];rintro ⟨_,h2⟩;obtain ⟨y,hy,h3,h4,h5,h6,h7,h8⟩:=h2 i fhc1;obtain rfl:=Qm hx1 hy;first | omega | contradiction | (obtain ⟨z,hz,h9⟩:=h8 (by omega);obtain rfl:=Qm hx2 hz;omega) | (simp_all;done))
   refine VRunD.free Y (VWant.on Y Y (nz fhg34_3)) Y (OF.fieldAddrO (tv (T.op 0 0) Y) Zf) (VRunD.look Y (VWant.on Y Y (nz fhg34_3)) Y (OL.loadO1 (t:=(tS x1.Letter)) (tv (T.op 0 1) Y) Y Y st9) (VRunD.look Y (VWant.on Y Y (nz fhg34_3)) Y (B.lenS (tv (tS x1.Letter) Y) U9) (VRunD.free Y (VWant.on Y Y (nz fhg34_3)) Y (B.neq (c:=(!(decide (x1.Letter.size=1)))) (tv (tN x1.Letter.size) Y) (VEv.int .i64 1) (by first | exact hw _ (List.mem_of_getElem? hx1) | (exact Qcl (by omega)))) (fD (OF.pickF (VEv.tmpB Y (nz fhg34_3)) (tv (tB (!(decide (x1.Letter.size=1)))) Y)) Y Y (mD (tB (!(decide (x1.Letter.size=1)))) Y Y ?_)))))
   refine gn (x1.Letter.size=1) (fun fhg40_4=> ?_) fun fhg40_4=> ?_
   ·refine oD Y Y (ny fhg40_4) Y ?_
    refine oD Y Y (ny fhg40_4) Y (oD Y Y (ny fhg40_4) Y (oD Y Y (ny fhg40_4) Y (fD (OF.pickT (VEv.tmpB Y (ny fhg40_4)) (VEv.bool true)) Y Y (mD (tB true) Y Y (VRunD.off Y (VWant.not (b:=true) Y Y Y) (VRunD.off Y (VWant.not (b:=true) Y Y Y) (VRunD.off Y (VWant.not (b:=true) Y Y Y) (VRunD.off Y (VWant.not (b:=true) Y Y Y) (fD (OF.pickT (tv (tB true) Y) (VEv.bool true)) Y Y (mD (tB true) Y Y (VRunD.off Y (VWant.not (b:=true) Y Y Y) ?_)))))))))))
    refine VRunD.off Y (VWant.not (b:=true) Y Y Y) (VRunD.off Y (VWant.not (b:=true) Y Y Y) (VRunD.off Y (VWant.not (b:=true) Y Y Y) (fD (OF.pickT (tv (tB true) Y) (VEv.bool true)) Y Y (VRunD.nil (tn (ct Y (sr (fO (OF.assign (VEv.bool false)) (nt (rt (vinB.r ?_)))))))))))
    refine tr (tr (vinB.r (tr (vb (b':=false) Y ?_))))
    first | (symm;rw [decide_eq_false_iff_not];rintro ⟨h2,_⟩;omega) | (symm;rw [decide_eq_true_eq];exact ⟨by omega,QX hI' fhc1⟩) | (symm;rw [decide_eq_false_iff_not];rintro ⟨_,h2⟩;obtain ⟨y,hy,h3,h4,h5,h6,h7,h8⟩:=h2 i fhc1;obtain rfl:=Qm hx1 hy;first | omega | contradiction | (obtain ⟨z,hz,h9⟩:=h8 (by omega);obtain rfl:=Qm hx2 hz;omega) | (simp_all;done))
   refine VRunD.free Y (VWant.on Y Y (nz fhg40_4)) Y (OF.fieldAddrO (tv (T.op 0 0) Y) Zf) (VRunD.look Y (VWant.on Y Y (nz fhg40_4)) Y (OL.loadO1 (t:=(tS x1.Letter)) (tv (T.op 0 1) Y) Y Y st9) (VRunD.quiet (bi:= [26,24,22,20,21,23,18,16,14,15,17,12,8,6,4,5,3,7,10,9,11,1,0,2,13,19,25,27]) Y (VWant.on Y Y (nz fhg40_4)) Y Y Y bn (cS (vc (tv (tS x1.Letter) Y) vn) (ZM Y) (Yr (n+0) x1.Letter (by first | exact hw _ (List.mem_of_getElem? hx1) | assumption | omega)) Y Y) (VRunD.free Y (VWant.on Y Y (nz fhg40_4)) Y (QU (tv (tB (decide (Zu x1.Letter))) Y)) (fD (OF.pickF (VEv.tmpB Y (nz fhg40_4)) (tv (tB (!(decide (Zu x1.Letter)))) Y)) Y Y (mD (tB (!(decide (Zu x1.Letter)))) Y Y ?_)))))
   refine gn (Zu x1.Letter) (fun fhg46_5=> ?_) fun fhg46_5=> ?_
   ·refine oD Y Y (ny fhg46_5) Y ?_
    refine oD Y Y (ny fhg46_5) Y (oD Y Y (ny fhg46_5) Y (oD Y Y (ny fhg46_5) Y (fD (OF.pickT (VEv.tmpB Y (ny fhg46_5)) (VEv.bool true)) Y Y (mD (tB true) Y Y (VRunD.off Y (VWant.not (b:=true) Y Y Y) (VRunD.off Y (VWant.not (b:=true) Y Y Y) (VRunD.off Y (VWant.not (b:=true) Y Y Y) (VRunD.off Y (VWant.not (b:=true) Y Y Y) (fD (OF.pickT (tv (tB true) Y) (VEv.bool true)) Y Y (VRunD.nil (tn ?_)))))))))))
    refine ct Y (sr (fO (OF.assign (VEv.bool false)) (nt (rt (vinB.r (tr (tr (vinB.r (tr (vb (b':=false) Y ?_))))))))))
    first | (symm;rw [decide_eq_false_iff_not];rintro ⟨h2,_⟩;omega) | (symm;rw [decide_eq_true_eq];exact ⟨by omega,QX hI' fhc1⟩) | (symm;rw [decide_eq_false_iff_not];rintro ⟨_,h2⟩;obtain ⟨y,hy,h3,h4,h5,h6,h7,h8⟩:=h2 i fhc1;obtain rfl:=Qm hx1 hy;first | omega | contradiction | (obtain ⟨z,hz,h9⟩:=h8 (by omega);obtain rfl:=Qm hx2 hz;omega) | (simp_all;done))
   refine VRunD.free Y (VWant.on Y Y (nz fhg46_5)) Y (OF.fieldAddrO (tv (T.op 0 0) Y) Zg) (VRunD.look Y (VWant.on Y Y (nz fhg46_5)) Y (OL.loadO1 (t:=(tI x1.Tick)) (tv (T.op 0 2) Y) Y Y ZE) (VRunD.quiet (bi:= [32,30,28,26,27,29,24,22,20,21,23,18,16,14,15,17,12,8,6,4,5,3,7,10,9,11,1,0,2,13,19,25,31,33]) Y (VWant.on Y Y (nz fhg46_5)) Y Y Y bn (cS (vc (tv (tI x1.Tick) Y) (vc (VEv.int .i64 0) (vc (VEv.int .i64 1000) vn))) (ZM Y) (Q1 (n+1) x1.Tick 0 1000) Y Y) (VRunD.free Y (VWant.on Y Y (nz fhg46_5)) Y (QU (tv (tB (decide (0≤x1.Tick∧x1.Tick≤1000))) Y)) (fD (OF.pickF (VEv.tmpB Y (nz fhg46_5)) (tv (tB (!(decide (0≤x1.Tick∧x1.Tick≤1000)))) Y)) Y Y (mD (tB (!(decide (0≤x1.Tick∧x1.Tick≤1000)))) Y Y ?_)))))
   refine gn (0≤x1.Tick∧x1.Tick≤1000) (fun fhg52_6=> ?_) fun fhg52_6=> ?_
   ·refine oD Y Y (ny fhg52_6) Y ?_
    refine oD Y Y (ny fhg52_6) Y (oD Y Y (ny fhg52_6) Y (oD Y Y (ny fhg52_6) Y (fD (OF.pickT (VEv.tmpB Y (ny fhg52_6)) (VEv.bool true)) Y Y (VRunD.nil (tn (ct Y (sr (fO (OF.assign (VEv.bool false)) (nt (rt (vinB.r ?_)))))))))))
    refine tr (tr (vinB.r (tr (vb (b':=false) Y ?_))))
    first | (symm;rw [decide_eq_false_iff_not];rintro ⟨h2,_⟩;omega) | (symm;rw [decide_eq_true_eq];exact ⟨by omega,QX hI' fhc1⟩) | (symm;rw [decide_eq_false_iff_not];rintro ⟨_,h2⟩;obtain ⟨y,hy,h3,h4,h5,h6,h7,h8⟩:=h2 i fhc1;obtain rfl:=Qm hx1 hy;first | omega | contradiction | (obtain ⟨z,hz,h9⟩:=h8 (by omega);obtain rfl:=Qm hx2 hz;omega) | (simp_all;done))
   refine VRunD.free Y (VWant.on Y Y (nz fhg52_6)) Y (OF.fieldAddrO (tv (T.op 0 0) Y) Zi) (VRunD.look Y (VWant.on Y Y (nz fhg52_6)) Y (OL.loadO1 (t:=(tI x1.Who)) (tv (T.op 0 3) Y) Y Y ZE) (VRunD.quiet (bi:= [38,36,34,32,33,35,30,28,26,27,29,24,22,20,21,23,18,16,14,15,17,12,8,6,4,5,3,7,10,9,11,1,0,2,13,19,25,31,37,39]) Y (VWant.on Y Y (nz fhg52_6)) Y Y Y bn (cS (vc (tv (tI x1.Who) Y) (vc (VEv.int .i64 1) (vc (VEv.int .i64 9) vn))) (ZM Y) (Q1 (n+1) x1.Who 1 9) Y Y) (VRunD.free Y (VWant.on Y Y (nz fhg52_6)) Y (QU (tv (tB (decide (1≤x1.Who∧x1.Who≤9))) Y)) (fD (OF.pickF (VEv.tmpB Y (nz fhg52_6)) (tv (tB (!(decide (1≤x1.Who∧x1.Who≤9)))) Y)) Y Y (VRunD.nil (tn ?_))))))
   refine cn (1≤x1.Who∧x1.Who≤9) Y (fun fhc2=> ?_) fun fhc2=> ?_
   ·refine sr ?_
    refine fO (OF.assign (VEv.bool false)) (nt (rt (vinB.r (tr (tr (vinB.r (tr (vb (b':=false) Y ?_))))))))
    first | (symm;rw [decide_eq_false_iff_not];rintro ⟨h2,_⟩;omega) | (symm;rw [decide_eq_true_eq];exact ⟨by omega,QX hI' fhc1⟩) | (symm;rw [decide_eq_false_iff_not];rintro ⟨_,h2⟩;obtain ⟨y,hy,h3,h4,h5,h6,h7,h8⟩:=h2 i fhc1;obtain rfl:=Qm hx1 hy;first | omega | contradiction | (obtain ⟨z,hz,h9⟩:=h8 (by omega);obtain rfl:=Qm hx2 hz;omega) | (simp_all;done))
   refine sk (vinB.n (tn (VRun.region (fO (ZQ (tv (tN i) Y) (VEv.int .i64 1) (by first | exact hw _ (List.mem_of_getElem? hx1) | omega)) (mO (tN (i+1)) Y (VRunO.nil (tn ?_)))))))
   refine ⟨(i+1:Nat),?_,?_,Wk.mk (fun k=>k) ?_ ?_ ?_⟩
   ·refine Yd hI0 fhc1 ⟨x1,hx1,by omega,by omega,by assumption,by omega,by omega,fun h0=> ?_⟩
    first | (exact absurd h0 (by omega)) | (exact ⟨x2,hx2,by omega⟩)
   ·first | omega | (simp only [];omega) | (show _<_;omega) | (simp;omega)
   ·exact (b2 (b2 (b2 (b2 bn))))
   ·exact bn
   ·exact nd Y
  refine oD Y Y (dz fhg17_1) Y (oD Y Y (dz fhg17_1) Y (oD Y Y (dz fhg17_1) Y (oD Y Y (dz fhg17_1) Y (oD Y Y (dz fhg17_1) Y (oD Y Y (dz fhg17_1) Y (oD Y Y (dz fhg17_1) Y (oD Y Y (dz fhg17_1) Y (oD Y Y (dz fhg17_1) Y (fD (OF.pickF (VEv.tmpB Y (dz fhg17_1)) (VEv.bool false)) Y Y (mD (tB false) Y Y (VRunD.free Y (VWant.on (b:=false) Y Y Y) Y (OF.fieldAddrO (tv (T.op 0 0) Y) QY) ?_)))))))))))
  refine VRunD.look Y (VWant.on (b:=false) Y Y Y) Y (OL.loadO1 (t:=(tI x1.Cell)) (tv (T.op 0 0) Y) Y Y ZE) (VRunD.quiet (bi:= [14,12,8,6,4,5,3,7,10,9,11,1,0,2,13,15]) Y (VWant.on (b:=false) Y Y Y) Y Y Y bn (cS (vc (tv (tI x1.Cell) Y) (vc (VEv.int .i64 0) (vc (VEv.int .i64 35) vn))) (ZM Y) (Q1 (n+1) x1.Cell 0 35) Y Y) (VRunD.free Y (VWant.on (b:=false) Y Y Y) Y (QU (tv (tB (decide (0≤x1.Cell∧x1.Cell≤35))) Y)) (fD (OF.pickF (tv (tB false) Y) (tv (tB (!(decide (0≤x1.Cell∧x1.Cell≤35)))) Y)) Y Y (mD (tB (!(decide (0≤x1.Cell∧x1.Cell≤35)))) Y Y ?_))))
  refine gn (0≤x1.Cell∧x1.Cell≤35) (fun fhg34_7=> ?_) fun fhg34_7=> ?_
  ·refine oD Y Y (ny fhg34_7) Y ?_
   refine oD Y Y (ny fhg34_7) Y (oD Y Y (ny fhg34_7) Y (oD Y Y (ny fhg34_7) Y (fD (OF.pickT (VEv.tmpB Y (ny fhg34_7)) (VEv.bool true)) Y Y (mD (tB true) Y Y (VRunD.off Y (VWant.not (b:=true) Y Y Y) (VRunD.off Y (VWant.not (b:=true) Y Y Y) (VRunD.off Y (VWant.not (b:=true) Y Y Y) (VRunD.off Y (VWant.not (b:=true) Y Y Y) (fD (OF.pickT (tv (tB true) Y) (VEv.bool true)) Y Y (mD (tB true) Y Y (VRunD.off Y (VWant.not (b:=true) Y Y Y) ?_)))))))))))
   refine VRunD.off Y (VWant.not (b:=true) Y Y Y) (VRunD.off Y (VWant.not (b:=true) Y Y Y) (VRunD.off Y (VWant.not (b:=true) Y Y Y) (fD (OF.pickT (tv (tB true) Y) (VEv.bool true)) Y Y (mD (tB true) Y Y (VRunD.off Y (VWant.not (b:=true) Y Y Y) (VRunD.off Y (VWant.not (b:=true) Y Y Y) (VRunD.off Y (VWant.not (b:=true) Y Y Y) (VRunD.off Y (VWant.not (b:=true) Y Y Y) (fD (OF.pickT (tv (tB true) Y) (VEv.bool true)) Y Y (VRunD.nil (tn ?_)))))))))))
   refine ct Y (sr (fO (OF.assign (VEv.bool false)) (nt (rt (vinB.r (tr (tr (vinB.r (tr (vb (b':=false) Y ?_))))))))))
   first | (symm;rw [decide_eq_false_iff_not];rintro ⟨h2,_⟩;omega) | (symm;rw [decide_eq_true_eq];exact ⟨by omega,QX hI' fhc1⟩) | (symm;rw [decide_eq_false_iff_not];rintro ⟨_,h2⟩;obtain ⟨y,hy,h3,h4,h5,h6,h7,h8⟩:=h2 i fhc1;obtain rfl:=Qm hx1 hy;first | omega | contradiction | (obtain ⟨z,hz,h9⟩:=h8 (by omega);obtain rfl:=Qm hx2 hz;omega) | (simp_all;done))
  refine VRunD.free Y (VWant.on Y Y (nz fhg34_7)) Y (OF.fieldAddrO (tv (T.op 0 0) Y) Zf) (VRunD.look Y (VWant.on Y Y (nz fhg34_7)) Y (OL.loadO1 (t:=(tS x1.Letter)) (tv (T.op 0 1) Y) Y Y st9) (VRunD.look Y (VWant.on Y Y (nz fhg34_7)) Y (B.lenS (tv (tS x1.Letter) Y) U9) (VRunD.free Y (VWant.on Y Y (nz fhg34_7)) Y (B.neq (c:=(!(decide (x1.Letter.size=1)))) (tv (tN x1.Letter.size) Y) (VEv.int .i64 1) (by first | exact hw _ (List.mem_of_getElem? hx1) | (exact Qcl (by omega)))) (fD (OF.pickF (VEv.tmpB Y (nz fhg34_7)) (tv (tB (!(decide (x1.Letter.size=1)))) Y)) Y Y (mD (tB (!(decide (x1.Letter.size=1)))) Y Y ?_)))))
  refine gn (x1.Letter.size=1) (fun fhg40_8=> ?_) fun fhg40_8=> ?_
  ·refine oD Y Y (ny fhg40_8) Y ?_
   refine oD Y Y (ny fhg40_8) Y (oD Y Y (ny fhg40_8) Y (oD Y Y (ny fhg40_8) Y (fD (OF.pickT (VEv.tmpB Y (ny fhg40_8)) (VEv.bool true)) Y Y (mD (tB true) Y Y (VRunD.off Y (VWant.not (b:=true) Y Y Y) (VRunD.off Y (VWant.not (b:=true) Y Y Y) (VRunD.off Y (VWant.not (b:=true) Y Y Y) (VRunD.off Y (VWant.not (b:=true) Y Y Y) (fD (OF.pickT (tv (tB true) Y) (VEv.bool true)) Y Y (mD (tB true) Y Y (VRunD.off Y (VWant.not (b:=true) Y Y Y) ?_)))))))))))
   refine VRunD.off Y (VWant.not (b:=true) Y Y Y) (VRunD.off Y (VWant.not (b:=true) Y Y Y) (VRunD.off Y (VWant.not (b:=true) Y Y Y) (fD (OF.pickT (tv (tB true) Y) (VEv.bool true)) Y Y (VRunD.nil (tn (ct Y (sr (fO (OF.assign (VEv.bool false)) (nt (rt (vinB.r ?_)))))))))))
   refine tr (tr (vinB.r (tr (vb (b':=false) Y ?_))))
   first | (symm;rw [decide_eq_false_iff_not];rintro ⟨h2,_⟩;omega) | (symm;rw [decide_eq_true_eq];exact ⟨by omega,QX hI' fhc1⟩) | (symm;rw [decide_eq_false_iff_not];rintro ⟨_,h2⟩;obtain ⟨y,hy,h3,h4,h5,h6,h7,h8⟩:=h2 i fhc1;obtain rfl:=Qm hx1 hy;first | omega | contradiction | (obtain ⟨z,hz,h9⟩:=h8 (by omega);obtain rfl:=Qm hx2 hz;omega) | (simp_all;done))
  refine VRunD.free Y (VWant.on Y Y (nz fhg40_8)) Y (OF.fieldAddrO (tv (T.op 0 0) Y) Zf) (VRunD.look Y (VWant.on Y Y (nz fhg40_8)) Y (OL.loadO1 (t:=(tS x1.Letter)) (tv (T.op 0 1) Y) Y Y st9) (VRunD.quiet (bi:= [26,24,22,20,21,23,18,16,14,15,17,12,8,6,4,5,3,7,10,9,11,1,0,2,13,19,25,27]) Y (VWant.on Y Y (nz fhg40_8)) Y Y Y bn (cS (vc (tv (tS x1.Letter) Y) vn) (ZM Y) (Yr (n+0) x1.Letter (by first | exact hw _ (List.mem_of_getElem? hx1) | assumption | omega)) Y Y) (VRunD.free Y (VWant.on Y Y (nz fhg40_8)) Y (QU (tv (tB (decide (Zu x1.Letter))) Y)) (fD (OF.pickF (VEv.tmpB Y (nz fhg40_8)) (tv (tB (!(decide (Zu x1.Letter)))) Y)) Y Y (mD (tB (!(decide (Zu x1.Letter)))) Y Y ?_)))))
  refine gn (Zu x1.Letter) (fun fhg46_9=> ?_) fun fhg46_9=> ?_
  ·refine oD Y Y (ny fhg46_9) Y ?_
   refine oD Y Y (ny fhg46_9) Y (oD Y Y (ny fhg46_9) Y (oD Y Y (ny fhg46_9) Y (fD (OF.pickT (VEv.tmpB Y (ny fhg46_9)) (VEv.bool true)) Y Y (mD (tB true) Y Y (VRunD.off Y (VWant.not (b:=true) Y Y Y) (VRunD.off Y (VWant.not (b:=true) Y Y Y) (VRunD.off Y (VWant.not (b:=true) Y Y Y) (VRunD.off Y (VWant.not (b:=true) Y Y Y) (fD (OF.pickT (tv (tB true) Y) (VEv.bool true)) Y Y (VRunD.nil (tn ?_)))))))))))
   refine ct Y (sr (fO (OF.assign (VEv.bool false)) (nt (rt (vinB.r (tr (tr (vinB.r (tr (vb (b':=false) Y ?_))))))))))
   first | (symm;rw [decide_eq_false_iff_not];rintro ⟨h2,_⟩;omega) | (symm;rw [decide_eq_true_eq];exact ⟨by omega,QX hI' fhc1⟩) | (symm;rw [decide_eq_false_iff_not];rintro ⟨_,h2⟩;obtain ⟨y,hy,h3,h4,h5,h6,h7,h8⟩:=h2 i fhc1;obtain rfl:=Qm hx1 hy;first | omega | contradiction | (obtain ⟨z,hz,h9⟩:=h8 (by omega);obtain rfl:=Qm hx2 hz;omega) | (simp_all;done))
  refine VRunD.free Y (VWant.on Y Y (nz fhg46_9)) Y (OF.fieldAddrO (tv (T.op 0 0) Y) Zg) (VRunD.look Y (VWant.on Y Y (nz fhg46_9)) Y (OL.loadO1 (t:=(tI x1.Tick)) (tv (T.op 0 2) Y) Y Y ZE) (VRunD.quiet (bi:= [32,30,28,26,27,29,24,22,20,21,23,18,16,14,15,17,12,8,6,4,5,3,7,10,9,11,1,0,2,13,19,25,31,33]) Y (VWant.on Y Y (nz fhg46_9)) Y Y Y bn (cS (vc (tv (tI x1.Tick) Y) (vc (VEv.int .i64 0) (vc (VEv.int .i64 1000) vn))) (ZM Y) (Q1 (n+1) x1.Tick 0 1000) Y Y) (VRunD.free Y (VWant.on Y Y (nz fhg46_9)) Y (QU (tv (tB (decide (0≤x1.Tick∧x1.Tick≤1000))) Y)) (fD (OF.pickF (VEv.tmpB Y (nz fhg46_9)) (tv (tB (!(decide (0≤x1.Tick∧x1.Tick≤1000)))) Y)) Y Y (mD (tB (!(decide (0≤x1.Tick∧x1.Tick≤1000)))) Y Y ?_)))))
  refine gn (0≤x1.Tick∧x1.Tick≤1000) (fun fhg52_10=> ?_) fun fhg52_10=> ?_
  ·refine oD Y Y (ny fhg52_10) Y ?_
   refine oD Y Y (ny fhg52_10) Y (oD Y Y (ny fhg52_10) Y (oD Y Y (ny fhg52_10) Y (fD (OF.pickT (VEv.tmpB Y (ny fhg52_10)) (VEv.bool true)) Y Y (VRunD.nil (tn (ct Y (sr (fO (OF.assign (VEv.bool false)) (nt (rt (vinB.r ?_)))))))))))
   refine tr (tr (vinB.r (tr (vb (b':=false) Y ?_))))
   first | (symm;rw [decide_eq_false_iff_not];rintro ⟨h2,_⟩;omega) | (symm;rw [decide_eq_true_eq];exact ⟨by omega,QX hI' fhc1⟩) | (symm;rw [decide_eq_false_iff_not];rintro ⟨_,h2⟩;obtain ⟨y,hy,h3,h4,h5,h6,h7,h8⟩:=h2 i fhc1;obtain rfl:=Qm hx1 hy;first | omega | contradiction | (obtain ⟨z,hz,h9⟩:=h8 (by omega);obtain rfl:=Qm hx2 hz;omega) | (simp_all;done))
  refine VRunD.free Y (VWant.on Y Y (nz fhg52_10)) Y (OF.fieldAddrO (tv (T.op 0 0) Y) Zi) (VRunD.look Y (VWant.on Y Y (nz fhg52_10)) Y (OL.loadO1 (t:=(tI x1.Who)) (tv (T.op 0 3) Y) Y Y ZE) (VRunD.quiet (bi:= [38,36,34,32,33,35,30,28,26,27,29,24,22,20,21,23,18,16,14,15,17,12,8,6,4,5,3,7,10,9,11,1,0,2,13,19,25,31,37,39]) Y (VWant.on Y Y (nz fhg52_10)) Y Y Y bn (cS (vc (tv (tI x1.Who) Y) (vc (VEv.int .i64 1) (vc (VEv.int .i64 9) vn))) (ZM Y) (Q1 (n+1) x1.Who 1 9) Y Y) (VRunD.free Y (VWant.on Y Y (nz fhg52_10)) Y (QU (tv (tB (decide (1≤x1.Who∧x1.Who≤9))) Y)) (fD (OF.pickF (VEv.tmpB Y (nz fhg52_10)) (tv (tB (!(decide (1≤x1.Who∧x1.Who≤9)))) Y)) Y Y (VRunD.nil (tn ?_))))))
  refine cn (1≤x1.Who∧x1.Who≤9) Y (fun fhc2=> ?_) fun fhc2=> ?_
  ·refine sr ?_
   refine fO (OF.assign (VEv.bool false)) (nt (rt (vinB.r (tr (tr (vinB.r (tr (vb (b':=false) Y ?_))))))))
   first | (symm;rw [decide_eq_false_iff_not];rintro ⟨h2,_⟩;omega) | (symm;rw [decide_eq_true_eq];exact ⟨by omega,QX hI' fhc1⟩) | (symm;rw [decide_eq_false_iff_not];rintro ⟨_,h2⟩;obtain ⟨y,hy,h3,h4,h5,h6,h7,h8⟩:=h2 i fhc1;obtain rfl:=Qm hx1 hy;first | omega | contradiction | (obtain ⟨z,hz,h9⟩:=h8 (by omega);obtain rfl:=Qm hx2 hz;omega) | (simp_all;done))
  refine sk (vinB.n (tn (VRun.region (fO (ZQ (tv (tN i) Y) (VEv.int .i64 1) (by first | exact hw _ (List.mem_of_getElem? hx1) | omega)) (mO (tN (i+1)) Y (VRunO.nil (tn ?_)))))))
  refine ⟨(i+1:Nat),?_,?_,Wk.mk (fun k=>k) ?_ ?_ ?_⟩
  ·refine Yd hI0 fhc1 ⟨x1,hx1,by omega,by omega,by assumption,by omega,by omega,fun h0=> ?_⟩
   first | (exact absurd h0 (by omega)) | (exact ⟨x2,hx2,by omega⟩)
  ·first | omega | (simp only [];omega) | (show _<_;omega) | (simp;omega)
  ·exact (b2 (b2 (b2 (b2 bn))))
  ·exact bn
  ·exact nd Y
 refine VRun.exit (vthn.e (vthn.e (vinB.e (tn (sr (fO (OF.assign (VEv.bool true)) (nt (rt (vb (b':=true) Y ?_)))))))))
 first | (symm;rw [decide_eq_false_iff_not];rintro ⟨h2,_⟩;omega) | (symm;rw [decide_eq_true_eq];exact ⟨by omega,QX hI' fhc1⟩) | (symm;rw [decide_eq_false_iff_not];rintro ⟨_,h2⟩;obtain ⟨y,hy,h3,h4,h5,h6,h7,h8⟩:=h2 i fhc1;obtain rfl:=Qm hx1 hy;first | omega | contradiction | (obtain ⟨z,hz,h9⟩:=h8 (by omega);obtain rfl:=Qm hx2 hz;omega) | (simp_all;done))
noncomputable section
def Qau : Nat→Int→ByteArray→ByteArray
 | 0,_,acc=>acc
 | f+1,k,acc=>if 0<k then Qau f (k.tdiv 10) (YK [IntKind.u8.wrap (48+k.tmod 10)]++acc) else acc
def YA (k:Int):ByteArray:=if k≤0 then ⟨#[109,48]⟩ else ⟨#[109]⟩++Qau k.toNat k ⟨#[]⟩
theorem QcG {f:Nat} {k:Int} {acc:ByteArray} (hk:0<k) (hf:k.toNat≤f):0≤k.tdiv 10∧(k.tdiv 10).toNat≤f - 1∧Qau f k acc=Qau (f - 1) (k.tdiv 10) (YK [IntKind.u8.wrap (48+k.tmod 10)]++acc):=by
 have h1:k.tdiv 10=k / 10:=Int.tdiv_eq_ediv_of_nonneg (by omega)
 cases f with
 | zero=>omega
 | succ f =>
  refine ⟨by omega,by omega,?_⟩
  simp only [Qau,if_pos hk]
  rfl
theorem Qdw {f:Nat} {k:Int} {acc:ByteArray} (hk:¬ 0<k):Qau f k acc=acc:=by
 cases f with
 | zero=>rfl
 | succ f=>simp only [Qau,if_neg hk]
theorem Qc6 (n:Int):(YK [n]).size=1:=rfl
theorem Qd9 {k:Int} (h:0<k):0≤k.tmod 10∧k.tmod 10<10∧0≤k.tdiv 10∧k.tdiv 10≤k:=by
 rw [Int.tmod_eq_emod_of_nonneg (by omega),Int.tdiv_eq_ediv_of_nonneg (by omega)]
 omega
end
theorem YH (n:Nat) (q:Int) (hq:q≤QR):Pure (QJ Try.prog (n+1)) 35 [(tI q)] (tS (YA q)):=by
 refine Pure.intro (rs:= [ResultVar.tmp 2]) Try.func35 Y Y Y (E0:= [(0,(tI q))]) Y ?_
 obtain ⟨hlim,hmx,hmax⟩:=ZS
 refine sr (fO (OF.assign (VEv.str (⟨#[]⟩:ByteArray))) (nt (sq (sr (mO (tI q) Y (fO (xle (tv (tI q) Y) (VEv.int .i64 0)) (nt ?_)))))))
 refine cd (q≤0) Y (fun fhc0=> ?_) fun fhc0=> ?_
 ·refine sr ?_
  refine fO (OF.assign (VEv.str (⟨#[109,48]⟩:ByteArray))) (nt (rt (tr ?_)))
  refine vfin.eq (r':=(tS (⟨#[109,48]⟩:ByteArray))) ?_ (vfin.r (VRes.tmp (t:=(tS (⟨#[109,48]⟩:ByteArray))) Y VRes.nil) (Give.str _))
  refine congrArg T.str ?_
  exact (if_pos fhc0).symm
 refine sk (tn (sr (fO (OF.assign (VEv.str (⟨#[]⟩:ByteArray))) (nt (sq (VRun.block ?_))))))
 refine VRun.loop (A:=Int×Nat×ByteArray) (fun s_=> [(0,(tI s_.1)),(2,(tS (⟨#[]⟩:ByteArray))),(3,(tS s_.2.2))]) (fun s_=>Jz []) 0 (fun s_=>0≤s_.1∧s_.1.toNat≤s_.2.1∧s_.2.2.size+s_.2.1≤q.toNat∧Qau q.toNat q ⟨#[]⟩=Qau s_.2.1 s_.1 s_.2.2) (fun s_=>s_.2.1) ((q,q.toNat,⟨#[]⟩):Int×Nat×ByteArray) ?_ (Wk.mk (fun k=>k) ?_ ?_ ?_) ?_
 ·exact ⟨by omega,Nat.le_refl _,by show 0+q.toNat≤q.toNat;omega,rfl⟩
 ·exact (b2 (b2 (bc ⟨(congrArg T.str (show (⟨#[]⟩:ByteArray)=⟨#[]⟩ from (by rfl))),rfl⟩ bn)))
 ·exact bn
 ·exact nd Y
 rintro ⟨k,f,acc⟩ (hI':0≤k∧k.toNat≤f∧acc.size+f≤q.toNat∧Qau q.toNat q ⟨#[]⟩=Qau f k acc)
 show VRun _ _ _ [(0,(tI k)),(2,(tS (⟨#[]⟩:ByteArray))),(3,(tS acc))] (Jz []) 0 _
 have hI1:=hI'.1
 have hI2:=hI'.2.1
 have hI3:=hI'.2.2.1
 have hI4:=hI'.2.2.2
 refine sq (sr (mO (tI k) Y (fO (xgt (tv (tI k) Y) (VEv.int .i64 0)) (nt ?_))))
 refine cd (0<k) Y (fun fhc1=> ?_) fun fhc1=> ?_
 ·obtain ⟨m1,m2,m3,m4⟩:=Qd9 fhc1
  refine sk (tn (VRun.block (sr (mO (tI k) Y (fO (B.rem (n:=(k.tmod 10)) (tv (tI k) Y) (VEv.int .i64 10) (by omega) (by rfl)) (fO (B.add (n:=(48+(k.tmod 10))) (VEv.int .i64 48) (tv (tI (k.tmod 10)) Y) (by (rw [Z7 (by omega)];done))) (fO (OF.convI (tv (tI (48+(k.tmod 10))) Y) (k0:= .i64) U3 U5) (kO (OM.buildSlice (l:= [(T.int .u8 (IntKind.u8.wrap (48+(k.tmod 10))))]) (VEvp.cons (tv (T.int .u8 (IntKind.u8.wrap (48+(k.tmod 10)))) Y) VEvp.nil) Y (by decide) (bc (nofun) bn) (bc ((bc (Y) bn)) bn) (bc (Y) bn) U67 zo5 (by kernel_rfl) Y (by rw [sz5];decide) sz5 (Nat.le_of_ble_eq_true Y)) (lO (B.convBS (l:= [IntKind.u8.wrap (48+(k.tmod 10))]) (tv (T.os 1 0 0 1) Y) Y Y U67 U5 U9) (mO (tS acc) Y (fO (B.sadd (tv (tS (YK [IntKind.u8.wrap (48+(k.tmod 10))])) Y) (tv (tS acc) Y) (by (simp only [Qc6];omega))) ?_)))))))))))
  refine aO (tS ((YK [IntKind.u8.wrap (48+(k.tmod 10))])++acc)) Y (nt (VRun.region (mO (tI k) Y (fO (B.quo (n:=(k.tdiv 10)) (tv (tI k) Y) (VEv.int .i64 10) (by omega) (by (rw [Z7 (by omega)];done))) (aO (tI (k.tdiv 10)) Y (VRunO.nil (vinB.n (tn ?_))))))))
  obtain ⟨n1,n2,n3⟩:=QcG (acc:=acc) fhc1 hI2
  refine ⟨((k.tdiv 10,f - 1,YK [IntKind.u8.wrap (48+k.tmod 10)]++acc):Int×Nat×ByteArray),?_,?_,Wk.mk (fun k=>k) ?_ ?_ ?_⟩
  ·exact ⟨n1,n2,by show (YK _++acc).size+(f - 1)≤q.toNat;rw [ByteArray.size_append,Qc6];omega,hI4.trans n3⟩
  ·(simp only [];omega)
  ·exact (b2 (b2 (bc ⟨(congrArg T.str (show ((YK [IntKind.u8.wrap (48+(k.tmod 10))])++acc)=(YK [IntKind.u8.wrap (48+k.tmod 10)]++acc) from (by rfl))),rfl⟩ bn)))
  ·exact bn
  ·exact nd Y
 refine VRun.exit (vthn.e (vthn.e (vinB.e (tn (sr (mO (tS acc) Y (fO (B.sadd (VEv.str (⟨#[109]⟩:ByteArray)) (tv (tS acc) Y) (by (rw [show (⟨#[109]⟩:ByteArray).size=1 from rfl];omega))) (aO (tS ((⟨#[109]⟩:ByteArray)++acc)) Y (nt (rt ?_))))))))))
 refine vfin.eq (r':=(tS ((⟨#[109]⟩:ByteArray)++acc))) ?_ (vfin.r (VRes.tmp (t:=(tS ((⟨#[109]⟩:ByteArray)++acc))) Y VRes.nil) (Give.str _))
 refine congrArg T.str ?_
 unfold YA
 rw [if_neg fhc0,hI4,Qdw fhc1]
noncomputable section
def QA (k:Nat):D.Note:=(D.Note.mk ((k:Nat):Int) (YA ((k+1:Nat):Int)) ((k+2:Nat):Int) ((k+3:Nat):Int))
end
theorem ZF (n:Nat) (a:List D.Note) (k:Nat) (hk:k+4*a.length≤QR):Mut (QJ Try.prog (n+2)) 13 4 (a.map (Qa true)) [(tN k)] (some ((k+4*a.length:Nat):Int)) ((Y0 QA 4 k a.length).map (Qa true)):=by
 refine Mut.intro (rt:=4) Try.func13 Y Y Y (by kernel_rfl) (YG (fun _=>rfl) _) (YG (fun _=>rfl) _) (E0:= [(1,(tN k))]) Y ?_
 obtain ⟨hlim,hmx,hmax⟩:=ZS
 refine sr (fO (OF.assign (VEv.int .i64 0)) (nt (sq (sr (fO (OF.assign (VEv.int .i64 0)) (nt (VRun.block ?_)))))))
 have he1:a=YL QA 4 k a 0:=by first | rfl | (refine J5 ?_;omega) | (simp only [List.set_set];refine J5 ?_;omega) | (simp;done) | omega
 refine VRun.loop (A:=Nat) (fun s_=> [(0,(T.os 4 0 0 (((YL QA 4 k a s_).map (Qa true)).length))),(1,(tN (k+4*s_))),(4,(tN 0)),(5,(tN s_))]) (fun s_=>Jz [(0,(Obj.rows 4 ((YL QA 4 k a s_).map (Qa true))))]) 1 (fun s_=>s_≤a.length) (fun s_=>a.length - s_) (0:Nat) ?_ (Wk.mk (fun k=>k) ?_ ?_ ?_) ?_
 ·first | trivial | (simp;done) | omega | (constructor<;>simp)
 ·exact (bc ⟨(congrArg (fun l_=>T.os 4 0 0 (List.map (Qa true) l_).length) he1),rfl⟩ (bc ⟨(congrArg (T.int .i64) (show ((k:Nat):Int)=((k+4*0:Nat):Int) from (by first | rfl | omega | (simp;done) | (push_cast;omega)))),rfl⟩ (b2 (b2 bn))))
 ·exact (bc ⟨(congrArg (fun l_=>some (Obj.rows 4 (List.map (Qa true) l_))) he1),(lb Y),rfl⟩ bn)
 ·exact nd Y
 rintro i (hI':i≤a.length)
 show VRun _ _ _ [(0,(T.os 4 0 0 (((YL QA 4 k a i).map (Qa true)).length))),(1,(tN (k+4*i))),(4,(tN 0)),(5,(tN i))] (Jz [(0,(Obj.rows 4 ((YL QA 4 k a i).map (Qa true))))]) 1 _
 have hml:=Qbd (f:=QA) (w:=4) (k:=k) hI'
 refine sq (sr (mO (tN i) Y (mO (T.os 4 0 0 (((YL QA 4 k a i).map (Qa true)).length)) Y (lO (B.lenO (m:=(YL QA 4 k a i).length) (tv (T.os 4 0 0 (((YL QA 4 k a i).map (Qa true)).length)) Y) QD (List.length_map ..)) (fO (JG (tv (tN i) Y) (tv (tN ((YL QA 4 k a i).length)) Y)) (nt ?_))))))
 refine cd (i<(YL QA 4 k a i).length) Y (fun fhc0=> ?_) fun fhc0=> ?_
 ·refine sk ?_
  refine tn (sq (VRun.block (sr (mO (T.os 4 0 0 (((YL QA 4 k a i).map (Qa true)).length)) Y (mO (tN i) Y (mO (tN (k+4*i)) Y ?_))))))
  obtain ⟨x1,hx1⟩:∃x,(YL QA 4 k a i)[i]? =some x:=⟨_,List.getElem?_eq_getElem (by first | omega | (simp only [List.length_set];omega) | omega)⟩
  refine fO (B.indexAddrO (i:=i) (tv (T.os 4 0 0 (((YL QA 4 k a i).map (Qa true)).length)) Y) (tv (tN i) Y) Y (by first | omega | (simp only [List.length_set];omega) | omega | (simp only [List.length_map];omega) | (simp only [List.length_map,List.length_append,List.length_cons,List.length_nil,List.length_replicate,List.length_set,List.length_drop,List.length_take,QR] at *;omega)) QD Qg Q3) (fO (OF.fieldAddrP (tv (T.orp 4 0 i 0) Y) QY) (cO (B.storeP (us:= [(tN (k+4*i))]) (rows':=(((YL QA 4 k a i).set i (D.Note.mk ((k+4*i:Nat):Int) x1.Letter x1.Tick x1.Who)).map (Qa true))) (row:=(Qa true x1)) (tv (T.orp 4 0 i 0) Y) (tv (tN (k+4*i)) Y) nofun Y (QK _ hx1) Y (lb Y) if3 sz3 (bc Y bn) (by intro r hr t ht;obtain ⟨x,_,rfl⟩:=List.mem_map.1 hr;rw [Jg] at ht;exact ZA (okeNote.pl _ t ht)) (Z6 Y)) (nt (sr (mO (tN (k+4*i)) Y (fO (ZQ (tv (tN (k+4*i)) Y) (VEv.int .i64 1) (by first | omega | (simp only [List.length_set];omega) | omega)) (aO (tN (k+4*i+1)) Y (nt (sr (mO (T.os 4 0 0 (((YL QA 4 k a i).map (Qa true)).length)) Y (mO (tN i) Y ?_)))))))))))
  refine mO (tN (k+4*i+1)) Y (cO (cS (vc (tv (tN (k+4*i+1)) Y) vn) (ZM Y) (YH (n+0) (((k+4*i+1):Nat):Int) (by first | omega | (simp only [List.length_set];omega) | assumption | omega)) Y Y) (fO (B.indexAddrO (i:=i) (tv (T.os 4 0 0 (((YL QA 4 k a i).map (Qa true)).length)) Y) (tv (tN i) Y) Y (by first | omega | (simp only [List.length_set];omega) | omega | (simp only [List.length_map];omega) | (simp only [List.length_map,List.length_append,List.length_cons,List.length_nil,List.length_replicate,List.length_set,List.length_drop,List.length_take,QR] at *;omega)) QD Qg Q3) (fO (OF.fieldAddrP (tv (T.orp 4 0 i 0) Y) Zf) (cO (B.storeP (us:= [(tS (YA (((k+4*i+1):Nat):Int)))]) (rows':=((((YL QA 4 k a i).set i (D.Note.mk ((k+4*i:Nat):Int) x1.Letter x1.Tick x1.Who)).set i (D.Note.mk ((k+4*i:Nat):Int) (YA (((k+4*i+1):Nat):Int)) x1.Tick x1.Who)).map (Qa true))) (row:=(Qa true (D.Note.mk ((k+4*i:Nat):Int) x1.Letter x1.Tick x1.Who))) (tv (T.orp 4 0 i 1) Y) (tv (tS (YA (((k+4*i+1):Nat):Int))) Y) nofun Y (QK _ (Qb5 (by first | omega | (simp only [List.length_set];omega) | omega | (simp only [List.length_map];omega) | (simp only [List.length_map,List.length_append,List.length_cons,List.length_nil,List.length_replicate,List.length_set,List.length_drop,List.length_take,QR] at *;omega)))) Y (lb Y) if9 sz9 (bc Y bn) (by intro r hr t ht;obtain ⟨x,_,rfl⟩:=List.mem_map.1 hr;rw [Jg] at ht;exact ZA (okeNote.pl _ t ht)) (Z6 Y)) (nt (sr (mO (tN (k+4*i+1)) Y (fO (ZQ (tv (tN (k+4*i+1)) Y) (VEv.int .i64 1) (by first | omega | (simp only [List.length_set];omega) | omega)) (aO (tN ((k+4*i+1)+1)) Y (nt (sr ?_)))))))))))
  refine mO (T.os 4 0 0 (((YL QA 4 k a i).map (Qa true)).length)) Y (mO (tN i) Y (mO (tN ((k+4*i+1)+1)) Y (fO (B.indexAddrO (i:=i) (tv (T.os 4 0 0 (((YL QA 4 k a i).map (Qa true)).length)) Y) (tv (tN i) Y) Y (by first | omega | (simp only [List.length_set];omega) | omega | (simp only [List.length_map];omega) | (simp only [List.length_map,List.length_append,List.length_cons,List.length_nil,List.length_replicate,List.length_set,List.length_drop,List.length_take,QR] at *;omega)) QD Qg Q3) (fO (OF.fieldAddrP (tv (T.orp 4 0 i 0) Y) Zg) (cO (B.storeP (us:= [(tN ((k+4*i+1)+1))]) (rows':=(((((YL QA 4 k a i).set i (D.Note.mk ((k+4*i:Nat):Int) x1.Letter x1.Tick x1.Who)).set i (D.Note.mk ((k+4*i:Nat):Int) (YA (((k+4*i+1):Nat):Int)) x1.Tick x1.Who)).set i (D.Note.mk ((k+4*i:Nat):Int) (YA (((k+4*i+1):Nat):Int)) ((((k+4*i+1)+1):Nat):Int) x1.Who)).map (Qa true))) (row:=(Qa true (D.Note.mk ((k+4*i:Nat):Int) (YA (((k+4*i+1):Nat):Int)) x1.Tick x1.Who))) (tv (T.orp 4 0 i 2) Y) (tv (tN ((k+4*i+1)+1)) Y) nofun Y (QK _ (Qb5 (by first | omega | (simp only [List.length_set];omega) | omega | (simp only [List.length_map];omega) | (simp only [List.length_map,List.length_append,List.length_cons,List.length_nil,List.length_replicate,List.length_set,List.length_drop,List.length_take,QR] at *;omega)))) Y (lb Y) if3 sz3 (bc Y bn) (by intro r hr t ht;obtain ⟨x,_,rfl⟩:=List.mem_map.1 hr;rw [Jg] at ht;exact ZA (okeNote.pl _ t ht)) (Z6 Y)) (nt (sr (mO (tN ((k+4*i+1)+1)) Y (fO (ZQ (tv (tN ((k+4*i+1)+1)) Y) (VEv.int .i64 1) (by first | omega | (simp only [List.length_set];omega) | omega)) (aO (tN (((k+4*i+1)+1)+1)) Y (nt ?_)))))))))))
  refine sr (mO (T.os 4 0 0 (((YL QA 4 k a i).map (Qa true)).length)) Y (mO (tN i) Y (mO (tN (((k+4*i+1)+1)+1)) Y (fO (B.indexAddrO (i:=i) (tv (T.os 4 0 0 (((YL QA 4 k a i).map (Qa true)).length)) Y) (tv (tN i) Y) Y (by first | omega | (simp only [List.length_set];omega) | omega | (simp only [List.length_map];omega) | (simp only [List.length_map,List.length_append,List.length_cons,List.length_nil,List.length_replicate,List.length_set,List.length_drop,List.length_take,QR] at *;omega)) QD Qg Q3) (fO (OF.fieldAddrP (tv (T.orp 4 0 i 0) Y) Zi) (cO (B.storeP (us:= [(tN (((k+4*i+1)+1)+1))]) (rows':=((((((YL QA 4 k a i).set i (D.Note.mk ((k+4*i:Nat):Int) x1.Letter x1.Tick x1.Who)).set i (D.Note.mk ((k+4*i:Nat):Int) (YA (((k+4*i+1):Nat):Int)) x1.Tick x1.Who)).set i (D.Note.mk ((k+4*i:Nat):Int) (YA (((k+4*i+1):Nat):Int)) ((((k+4*i+1)+1):Nat):Int) x1.Who)).set i (D.Note.mk ((k+4*i:Nat):Int) (YA (((k+4*i+1):Nat):Int)) ((((k+4*i+1)+1):Nat):Int) (((((k+4*i+1)+1)+1):Nat):Int))).map (Qa true))) (row:=(Qa true (D.Note.mk ((k+4*i:Nat):Int) (YA (((k+4*i+1):Nat):Int)) ((((k+4*i+1)+1):Nat):Int) x1.Who))) (tv (T.orp 4 0 i 3) Y) (tv (tN (((k+4*i+1)+1)+1)) Y) nofun Y (QK _ (Qb5 (by first | omega | (simp only [List.length_set];omega) | omega | (simp only [List.length_map];omega) | (simp only [List.length_map,List.length_append,List.length_cons,List.length_nil,List.length_replicate,List.length_set,List.length_drop,List.length_take,QR] at *;omega)))) Y (lb Y) if3 sz3 (bc Y bn) (by intro r hr t ht;obtain ⟨x,_,rfl⟩:=List.mem_map.1 hr;rw [Jg] at ht;exact ZA (okeNote.pl _ t ht)) (Z6 Y)) (nt (VRun.region (mO (tN (((k+4*i+1)+1)+1)) Y (fO (ZQ (tv (tN (((k+4*i+1)+1)+1)) Y) (VEv.int .i64 1) (by first | omega | (simp only [List.length_set];omega) | omega)) (aO (tN ((((k+4*i+1)+1)+1)+1)) Y ?_)))))))))))
  refine VRunO.nil (vinB.n (tn (VRun.region (mO (tN i) Y (fO (ZQ (tv (tN i) Y) (VEv.int .i64 1) (by first | omega | (simp only [List.length_set];omega) | omega)) (aO (tN (i+1)) Y (VRunO.nil (tn ?_))))))))
  have hi1:i+1≤a.length:=by omega
  have he2:(((((YL QA 4 k a i).set i (D.Note.mk ((k+4*i:Nat):Int) x1.Letter x1.Tick x1.Who)).set i (D.Note.mk ((k+4*i:Nat):Int) (YA (((k+4*i+1):Nat):Int)) x1.Tick x1.Who)).set i (D.Note.mk ((k+4*i:Nat):Int) (YA (((k+4*i+1):Nat):Int)) ((((k+4*i+1)+1):Nat):Int) x1.Who)).set i (D.Note.mk ((k+4*i:Nat):Int) (YA (((k+4*i+1):Nat):Int)) ((((k+4*i+1)+1):Nat):Int) (((((k+4*i+1)+1)+1):Nat):Int)))=YL QA 4 k a (i+1):=by first | rfl | (refine J5 ?_;omega) | (simp only [List.set_set];refine J5 ?_;omega) | (simp;done) | omega
  refine ⟨(i+1:Nat),?_,?_,Wk.mk (fun k=>k) ?_ ?_ ?_⟩
  ·first | trivial | omega | (simp;done) | exact ⟨by omega,hI'.2⟩
  ·first | omega | (simp only [];omega) | (show _<_;omega) | (simp;omega)
  ·exact (bc ⟨(congrArg (fun n_=>T.os 4 0 0 n_) (show ((YL QA 4 k a i).map (Qa true)).length=((YL QA 4 k a (i+1)).map (Qa true)).length from (by first | rfl | (rw [List.length_map,List.length_map,Qbd hI',Qbd hi1]) | (simp only [List.length_map];omega) | (simp only [List.length_map,List.length_set,List.length_append,List.length_take,List.length_replicate,List.length_cons,List.length_nil];omega)))),rfl⟩ (bc ⟨(congrArg (T.int .i64) (show ((((((k+4*i+1)+1)+1)+1):Nat):Int)=((k+4*(i+1):Nat):Int) from (by first | rfl | omega | (simp;done) | (push_cast;omega)))),rfl⟩ (b2 (b2 bn))))
  ·exact (bc ⟨(congrArg (fun l_=>some (Obj.rows 4 (List.map (Qa true) l_))) he2),(lb Y),rfl⟩ bn)
  ·exact nd Y
 refine VRun.exit (vthn.e (vthn.e (vinB.e (tn (sr (mO (tN (k+4*i)) Y (aO (tN (k+4*i)) Y (nt (rt ?_)))))))))
 refine vmut.r (r0:=((k+4*i:Nat):Int)) (rows:=((YL QA 4 k a i).map (Qa true))) Y Y Y ?_ ?_ Y
 ·first | rfl | (push_cast;omega) | (have:i=a.length:=(by omega);subst this;rfl)
 ·show List.map _ (YL QA 4 k a i)=List.map _ (Y0 QA 4 k a.length)
  refine congrArg (List.map _) ?_
  exact QdB hI' (by omega)
theorem Yq (n:Nat) (a:List D.Note) (k:Nat) (hh:a=Y0 QA 4 k a.length) (hk:k+4*a.length≤QR):Pure (QJ Try.prog (n+2)) 14 [(rd 4 Qa a),(tN k)] (tN (k+4*a.length)):=by
 refine Pure.intro (rs:= [ResultVar.tmp 4]) Try.func14 Y Y Y (E0:= [(0,(rd 4 Qa a)),(1,(tN k))]) Y ?_
 obtain ⟨hlim,hmx,hmax⟩:=ZS
 refine sr (fO (OF.assign (VEv.int .i64 0)) (nt (sq (sr (fO (OF.assign (VEv.int .i64 0)) (nt (VRun.block ?_)))))))
 refine VRun.loop (A:=Nat) (fun s_=> [(0,(rd 4 Qa a)),(1,(tN (k+4*s_))),(5,(tN s_))]) (fun s_=>Jz []) 0 (fun s_=>s_≤a.length) (fun s_=>a.length - s_) (0:Nat) ?_ (Wk.mk (fun k=>k) ?_ ?_ ?_) ?_
 ·first | trivial | (simp;done) | omega | (constructor<;>simp)
 ·exact (b2 (bc ⟨(congrArg (T.int .i64) (show ((k:Nat):Int)=((k+4*0:Nat):Int) from (by first | rfl | omega | (simp;done) | (push_cast;omega)))),rfl⟩ (b2 bn)))
 ·exact bn
 ·exact nd Y
 rintro i (hI':i≤a.length)
 show VRun _ _ _ [(0,(rd 4 Qa a)),(1,(tN (k+4*i))),(5,(tN i))] (Jz []) 0 _
 refine sq (sr (mO (tN i) Y (mO (rd 4 Qa a) Y (lO (B.lenR (m:=a.length) (tv (rd 4 Qa a) Y) QD (List.length_map ..)) (fO (JG (tv (tN i) Y) (tv (tN a.length) Y)) (nt ?_))))))
 refine cd (i<a.length) Y (fun fhc0=> ?_) fun fhc0=> ?_
 ·refine sk ?_
  refine tn (sq (VRun.block (sq (sr (mO (rd 4 Qa a) Y (mO (tN i) Y ?_))))))
  obtain ⟨x1,hx1⟩:∃x,a[i]? =some x:=⟨_,List.getElem?_eq_getElem (by omega)⟩
  refine fO (OF.indexAddrR (row:=(Qa false x1)) (i:=i) (tv (rd 4 Qa a) Y) (tv (tN i) Y) Y (QK _ hx1) QD Qg Q3) (lr (tI x1.Cell) Y (lb Y) QY Y ZE (mO (tN (k+4*i)) Y (fO (xne (tv (tI x1.Cell) Y) (tv (tN (k+4*i)) Y)) (nt ?_))))
  refine cn (x1.Cell=((k+4*i:Nat):Int)) Y (fun fhc1=> ?_) fun fhc1=> ?_
  ·exact absurd (congrArg (fun x=>x.Cell) (Qbi hh hx1)) fhc1
  refine sk (tn (sr (mO (tN (k+4*i)) Y (fO (ZQ (tv (tN (k+4*i)) Y) (VEv.int .i64 1) (by omega)) (aO (tN (k+4*i+1)) Y (nt (sq (sq (VRun.draw (B:= [[],[],[1,0],[0,1,2],[2,1,0,3],[],[5],[5,6,3,0,1,2,4]]) (by kernel_rfl) (by kernel_rfl) (mD (rd 4 Qa a) Y Y (mD (tN i) Y Y ?_)))))))))))
  refine fD (OF.indexAddrR (row:=(Qa false x1)) (i:=i) (tv (rd 4 Qa a) Y) (tv (tN i) Y) Y (QK _ hx1) QD Qg Q3) Y Y (fD (B.fieldAddrR (us:=((Qa false x1).drop 1)) (tv (T.rp (Qa false x1)) Y) (lb Y) Zf Y) Y Y (lD (OL.loadR1 (t:=(tS x1.Letter)) (tv (T.rp ((Qa false x1).drop 1)) Y) Y st9) Y Y (mD (tN (k+4*i+1)) Y Y (VRunD.quiet (bi:= [5]) Y VWant.always Y Y Y bn (cS (vc (tv (tN (k+4*i+1)) Y) vn) (ZM Y) (YH (n+0) (((k+4*i+1):Nat):Int) (by first | assumption | omega)) Y Y) (fD (B.sneq (c:=(!(decide (x1.Letter=YA (((k+4*i+1):Nat):Int))))) (tv (tS x1.Letter) Y) (tv (tS (YA (((k+4*i+1):Nat):Int))) Y) Y) Y Y (VRunD.nil (tn ?_)))))))
  refine cn (x1.Letter=YA (((k+4*i+1):Nat):Int)) Y (fun fhc2=> ?_) fun fhc2=> ?_
  ·exact absurd (congrArg (fun x=>x.Letter) (Qbi hh hx1)) fhc2
  refine sk (tn (sr (mO (tN (k+4*i+1)) Y (fO (ZQ (tv (tN (k+4*i+1)) Y) (VEv.int .i64 1) (by omega)) (aO (tN ((k+4*i+1)+1)) Y (nt (sq (sr (mO (rd 4 Qa a) Y (mO (tN i) Y (fO (OF.indexAddrR (row:=(Qa false x1)) (i:=i) (tv (rd 4 Qa a) Y) (tv (tN i) Y) Y (QK _ hx1) QD Qg Q3) ?_)))))))))))
  refine lr (tI x1.Tick) Y (lb Y) Zg Y ZE (mO (tN ((k+4*i+1)+1)) Y (fO (xne (tv (tI x1.Tick) Y) (tv (tN ((k+4*i+1)+1)) Y)) (nt ?_)))
  refine cn (x1.Tick=((((k+4*i+1)+1):Nat):Int)) Y (fun fhc3=> ?_) fun fhc3=> ?_
  ·exact absurd (congrArg (fun x=>x.Tick) (Qbi hh hx1)) fhc3
  refine sk (tn (sr (mO (tN ((k+4*i+1)+1)) Y (fO (ZQ (tv (tN ((k+4*i+1)+1)) Y) (VEv.int .i64 1) (by omega)) (aO (tN (((k+4*i+1)+1)+1)) Y (nt (sq (sr (mO (rd 4 Qa a) Y (mO (tN i) Y (fO (OF.indexAddrR (row:=(Qa false x1)) (i:=i) (tv (rd 4 Qa a) Y) (tv (tN i) Y) Y (QK _ hx1) QD Qg Q3) ?_)))))))))))
  refine lr (tI x1.Who) Y (lb Y) Zi Y ZE (mO (tN (((k+4*i+1)+1)+1)) Y (fO (xne (tv (tI x1.Who) Y) (tv (tN (((k+4*i+1)+1)+1)) Y)) (nt ?_)))
  refine cn (x1.Who=(((((k+4*i+1)+1)+1):Nat):Int)) Y (fun fhc4=> ?_) fun fhc4=> ?_
  ·exact absurd (congrArg (fun x=>x.Who) (Qbi hh hx1)) fhc4
  refine sk (tn (VRun.region (mO (tN (((k+4*i+1)+1)+1)) Y (fO (ZQ (tv (tN (((k+4*i+1)+1)+1)) Y) (VEv.int .i64 1) (by omega)) (aO (tN ((((k+4*i+1)+1)+1)+1)) Y (VRunO.nil (vinB.n (tn (VRun.region (mO (tN i) Y (fO (ZQ (tv (tN i) Y) (VEv.int .i64 1) (by omega)) ?_)))))))))))
  refine aO (tN (i+1)) Y (VRunO.nil (tn ?_))
  refine ⟨(i+1:Nat),?_,?_,Wk.mk (fun k=>k) ?_ ?_ ?_⟩
  ·first | trivial | omega | (simp;done) | exact ⟨by omega,hI'.2⟩
  ·first | omega | (simp only [];omega) | (show _<_;omega) | (simp;omega)
  ·exact (b2 (bc ⟨(congrArg (T.int .i64) (show ((((((k+4*i+1)+1)+1)+1):Nat):Int)=((k+4*(i+1):Nat):Int) from (by first | rfl | omega | (simp;done) | (push_cast;omega)))),rfl⟩ (b2 bn)))
  ·exact bn
  ·exact nd Y
 refine VRun.exit (vthn.e (vthn.e (vinB.e (tn (sr (mO (tN (k+4*i)) Y (aO (tN (k+4*i)) Y (nt (rt (vi (n':=((k+4*i:Nat):Int)) Y ?_))))))))))
 omega
end Go.Proofs.Ytnhblneeekccoaa.AE
