/- A part of what the row of FnExactAddUses uses. Conditions: as each theorem states. -/
import Derived.Test.YtnhblneeekccoaaZFnExactAddUsesb
import Derived.Test.YtnhblneeekccoaaProg
import Derived.KernelRfl
import Derived.Shelf.Spec.SlicesInsertGrow
namespace Go.Proofs.Ytnhblneeekccoaa.AE
open Go Go.RowKit
set_option linter.unusedVariables false
set_option linter.unusedSimpArgs false
section
variable {P : Program} {E : Qz} {O : Qm} {d : Option Tmp} {ty : TypeId} {ps : String} {af : Array Edge} {g : Option (Nat × Bool)} {x y z : Operand} {nx sz : Nat} {rows : List (List T)} {r : List T} {ks ks2 : List Nat}
theorem Qa5 (rows:List (List T)) (r:List T) (i:Nat):(rows.take i++r::rows.drop i).flatten=(rows.take i).flatten++(r++(rows.drop i).flatten):=by
 rw [List.flatten_append,List.flatten_cons]
theorem OC.insert {f:FuncId} {n i bytes:Nat} {tys:Array TypeId} (hp:YC f=false) (hq:QcA f=Zr sz bytes) (hbd:ZA P f=true) (hx:VDst sz E O x rows ks) (hy:VEv E y (.int .i64 i)) (hz:VDst sz E O z [r] ks2) (hdis:∀k∈ks,k∉ks2)
  (hsc:scR rows) (hsc2:scR [r]) (hok:∀r∈rows,∀t∈r,Zm t=true) (hok2:∀t∈r,Zm t=true) (hpos:0<sz) (hb:bytes≤128) (hlim:rows.length+1≤QS) (hi:i≤rows.length) :
  OC (Qt P (n+1)) P E O nx ⟨d, .call ⟨.value (.func f),#[x,y,z],tys⟩,ty,ps,af,g⟩ (.os sz nx 0 (rows.take i++r::rows.drop i).length) ((nx,some (.rows sz (rows.take i++r::rows.drop i)))::Qaj (ks++ks2) O) (nx+1) (ks++ks2):=⟨Nat.le_succ _,fun q p h0 σ hf own Ea h hs hu' hF=>by
 obtain ⟨v,h1,hd⟩:=hx p h0 σ hf own nx Ea h hs
 obtain ⟨vi,hi1,hi2⟩:=hy σ hf nx Ea hs.env
 obtain rfl:=V.intInv hi2
 obtain ⟨v2,h2,hd2⟩:=hz p h0 σ hf own nx Ea h hs
 rcases hd2 with ⟨a2,m2,cs2,N2,k2,rfl,hm2,hk2,hkn2,ho2,hh2,hodd2,hlen2,hfit2,hsl2,hnd2,hN2⟩ | ⟨e,_⟩
 rotate_left
 ·cases e
 obtain rfl:N2= []:=hsl2.sc hsc2.flat
 have hr1:r.length=sz:=hlen2 r (by simp)
 rw [List.length_singleton] at *
 rw [Nat.one_mul] at hfit2 hsl2
 rw [List.flatten_cons,List.flatten_nil,List.append_nil] at hsl2
 have hlim2:QS=1099511627776:=rfl
 have hbn:∀n,n≤rows.length+1→2*n*bytes≤281474976710656:=fun n hn=>by
  have e1:2*n*bytes≤2*QS*128:=Nat.mul_le_mul (Nat.mul_le_mul_left _ (Nat.le_trans hn hlim)) hb
  have:2*QS*128=281474976710656:=by decide
  omega
 have htok:h (Qb q)=none:=hF _ (Qj q)
 have h0t:h0.h (Qb q)=none:=by
  cases hh:h0.h (Qb q) with
  | none=>rfl
  | some o =>
   have e1:=hs.base (Qb q) (by rw [hh];simp)
   rw [hh] at e1
   rw [(hs.fro _ _ e1).1] at htok
   cases htok
 have hft:hf (Qb q)=none:=by
  cases hh:hf (Qb q) with
  | none=>rfl
  | some o=>rw [(hs.fro _ _ hh).1] at htok;cases htok
 have hone2:((cs2.drop 0).take sz).all (·.oneCell')=true:=by
  rw [List.drop_zero]
  exact hsl2.ones hok2
 have hg2:a2 % 2=1∧True∧0+sz≤cs2.length∧((cs2.drop 0).take sz).all (·.oneCell')=true∧2*bytes≤281474976710656:=⟨hodd2,trivial,by omega,hone2,by have:=hbn 1 (by omega);omega⟩
 have hcall:∀args,Qt P (n+1) f args h q=Zr sz bytes args h q:=fun args=>by rw [Qt,if_neg (by rw [hp];simp),hq]
 have hax:∀(vx:Value) (w:Value) (h':AH),QI Ea x=some vx→Zr sz bytes [vx, .int .i64 i, .slice (some ⟨a2,0,none⟩) 1 m2] h q=some (w,h') →
   Qi (Qt P (n+1)) P q Ea h ⟨d, .call ⟨.value (.func f),#[x,y,z],tys⟩,ty,ps,af,g⟩=some (w,h'):=fun vx w h' hvx hw=>by
  have:=X.calls (P:=P) (p:=q) (h:=h) (E:=Ea) (d:=d) (ty:=ty) (ps:=ps) (af:=af) (g:=g) (ts:=tys) (args:= #[x,y,z]) (l:= [vx, .int .i64 i, .slice (some ⟨a2,0,none⟩) 1 m2]) hbd (by simp [evs,hvx,hi1,h2])
  simp only [Qi,this,hcall,hw]
 have hrl:(rows.take i++r::rows.drop i).length=rows.length+1:=by
  rw [List.length_append,List.length_cons,List.length_take,List.length_drop];omega
 have hlenA:∀(hl:∀r∈rows,r.length=sz),∀r'∈rows.take i++r::rows.drop i,r'.length=sz:=fun hl r' hr'=>by
  rcases List.mem_append.1 hr' with hr' | hr'
  ·exact hl _ (List.mem_of_mem_take hr')
  ·rcases List.mem_cons.1 hr' with rfl | hr'
   ·exact hr1
   ·exact hl _ (List.mem_of_mem_drop hr')
 rcases hd with ⟨a,m,cs,N,k,rfl,hm,hk,hkn,ho,hh,hodd,hlen,hfit,hsl,hnd,hN⟩ | ⟨rfl,hv⟩
 ·obtain rfl:N= []:=hsl.sc hsc.flat
  have hat:a≠Qb q:=fun e=>by rw [e,htok] at hh;cases hh
  have haa:a≠a2:=fun e=>by
   rw [e,ho2] at ho
   exact hdis k hk (by rw [← Option.some.inj ho];exact hk2)
  have hx':=hax _ (.slice (some ⟨Qb q,0,none⟩) (rows.length+1) 1) ((h.upd a none).upd (Qb q) (some (.cells sz (YK cs ((cs2.drop 0).take sz) (i*sz) (rows.length*sz))))) h1 (by
   unfold Zr
   simp only [hh2,hh]
   rw [if_pos hg2,if_neg (show ¬m=0 by omega),if_pos ⟨hodd,haa,trivial,trivial,hfit,hsl.ones (fun t ht=>by
    obtain ⟨r0,hr0,htr⟩:=List.mem_flatten.1 ht
    exact hok r0 hr0 t htr),hbn _ (Nat.le_refl _),by omega,by omega,by omega⟩,Int.toNat_natCast])
  have hiL:i*sz≤rows.length*sz:=Nat.mul_le_mul_right _ hi
  have hfl:rows.flatten=(rows.take i).flatten++(rows.drop i).flatten:=by rw [← List.flatten_append,List.take_append_drop]
  have hfl1:(rows.take i).flatten.length=i*sz:=by
   rw [QY (fun r' hr'=>hlen r' (List.mem_of_mem_take hr')),List.length_take,Nat.min_eq_left hi]
  have hslA:SL hf h ((rows.take i).flatten++(r++(rows.drop i).flatten)) (YK cs ((cs2.drop 0).take sz) (i*sz) (rows.length*sz)) []:=by
   rw [hfl] at hsl
   obtain ⟨N1,N3,e1,s1,s2⟩:=hsl.split
   obtain ⟨rfl,rfl⟩:=List.append_eq_nil_iff.1 e1.symm
   rw [hfl1,List.take_take,Nat.min_eq_left hiL] at s1
   rw [hfl1] at s2
   have:=s1.append (hsl2.append s2)
   unfold YK
   rw [List.drop_zero]
   simpa using this
  have hcl:=Zc (cs:=cs) (news:=(cs2.drop 0).take sz) hiL hfit
  have hcl2:((cs2.drop 0).take sz).length=sz:=by rw [List.drop_zero,List.length_take];omega
  rw [hcl2] at hcl
  obtain ⟨own',g1,g2⟩:=hs.repl (ks:=ks++ks2) (oa:=some (Qb q)) (N:= [Qb q]) (h':=(h.upd a none).upd (Qb q) (some (.cells sz (YK cs ((cs2.drop 0).take sz) (i*sz) (rows.length*sz))))) (obj:= .rows sz (rows.take i++r::rows.drop i))
   (fun b hb hnk=>by rw [AH.upd_ne _ (fun e=>hb (by rw [e];exact htok)),AH.upd_ne _ (fun e=>hnk k (by simp [hk]) (by rw [e];exact ho))])
   (fun b hb=>by
    unfold AH.upd at hb
    split at hb
    ·rename_i e1
     exact .inr (e1▸hu' _ (Qj q))
    ·split at hb
     ·exact absurd Y hb
     ·exact hs.dom b hb)
   (by simp)
   (fun b hb=>by
    obtain rfl:=List.mem_singleton.1 hb
    exact ⟨hu' _ (Qj q),h0t,by rw [AH.upd_same];simp,hft, .inl htok⟩)
   (by
    refine .rows (AH.upd_same _ _ _) (ZW q) (hlenA hlen) (by rw [hrl,hcl,Nat.add_mul];omega) ?_
    rw [Qa5,List.take_of_length_le (l:=YK cs ((cs2.drop 0).take sz) (i*sz) (rows.length*sz)) (by rw [hrl,hcl,Nat.add_mul];omega)]
    exact hslA.mono (fun _ _ e=>e) (by simp))
  refine ⟨_,_,_,own',hx',?_,Jw _,g1,?_,?_,g2⟩
  ·intro b hb
   unfold AH.upd at hb
   split at hb
   ·rename_i e1
    exact .inr (e1▸Qj q)
   ·split at hb
    ·exact absurd Y hb
    ·exact .inl hb
  ·rw [hrl]
   have:=V.os (σ:=fun k=>if k=nx then some (Qb q) else σ k) (hf:=hf) (nx:=nx+1) (a:=Qb q) sz nx 0 (rows.length+1) 1 (by omega) (by simp) (by omega)
   rwa [Nat.zero_mul] at this
  ·intro b hb hnk
   rw [AH.upd_ne _ (fun e=>hb (by rw [e];exact htok)),AH.upd_ne _ (fun e=>hnk k (by simp [hk]) (by rw [e];exact ho))]
 ·obtain rfl:i=0:=by simpa using hi
  have hx':=hax v (.slice (some ⟨Qb q,0,none⟩) 1 1) (h.upd (Qb q) (some (.cells sz ((cs2.drop 0).take sz)))) h1 (by
   unfold Zr
   rcases hv with rfl | ⟨a,o,rfl⟩
   ·simp only [hh2]
    rw [if_pos hg2]
    exact if_pos Y
   ·simp only [hh2]
    rw [if_pos hg2,if_pos trivial]
    exact if_pos ⟨trivial,rfl⟩)
  have hcl2:((cs2.drop 0).take sz).length=sz:=by rw [List.drop_zero,List.length_take];omega
  obtain ⟨own',g1,g2⟩:=hs.repl (ks:=ks++ks2) (oa:=some (Qb q)) (N:= [Qb q]) (h':=h.upd (Qb q) (some (.cells sz ((cs2.drop 0).take sz)))) (obj:= .rows sz [r])
   (fun b hb hnk=>AH.upd_ne _ (fun e=>hb (by rw [e];exact htok)) _)
   (fun b hb=>by
    unfold AH.upd at hb
    split at hb
    ·rename_i e1
     exact .inr (e1▸hu' _ (Qj q))
    ·exact hs.dom b hb)
   (by simp)
   (fun b hb=>by
    obtain rfl:=List.mem_singleton.1 hb
    exact ⟨hu' _ (Qj q),h0t,by rw [AH.upd_same];simp,hft, .inl htok⟩)
   (by
    refine .rows (AH.upd_same _ _ _) (ZW q) (fun r' hr'=>by obtain rfl:=List.mem_singleton.1 hr';exact hr1) (by rw [List.length_singleton,hcl2];omega) ?_
    rw [List.flatten_cons,List.flatten_nil,List.append_nil,List.take_of_length_le (l:=(cs2.drop 0).take sz) (by rw [List.length_singleton,hcl2];omega),List.drop_zero]
    exact hsl2.mono (fun _ _ e=>e) (by simp))
  refine ⟨_,_,_,own',hx',?_,Jw _,g1,?_,?_,g2⟩
  ·intro b hb
   unfold AH.upd at hb
   split at hb
   ·rename_i e1
    exact .inr (e1▸Qj q)
   ·exact .inl hb
  ·have:=V.os (σ:=fun k=>if k=nx then some (Qb q) else σ k) (hf:=hf) (nx:=nx+1) (a:=Qb q) sz nx 0 1 1 (by omega) (by simp) (by omega)
   rwa [Nat.zero_mul] at this
  ·intro b hb hnk
   exact AH.upd_ne _ (fun e=>hb (by rw [e];exact htok)) _⟩
theorem B.insert {rows3:List (List T)} {f:FuncId} {n i bytes:Nat} {tys:Array TypeId} {j:Int} (hp:YC f=false) (hq:QcA f=Zr sz bytes) (hbd:ZA P f=true) (hx:VDst sz E O x rows ks) (hy:VEv E y (.int .i64 j)) (hj:j=i) (hz:VDst sz E O z [r] ks2) (hdis:∀k∈ks,k∉ks2)
  (hsc:scR rows) (hsc2:scR [r]) (hok:∀r∈rows,∀t∈r,Zm t=true) (hok2:∀t∈r,Zm t=true) (hpos:0<sz) (hb:bytes≤128) (hlim:rows.length+1≤QS) (hi:i≤rows.length) (hr:rows.take i++r::rows.drop i=rows3) :
  OC (Qt P (n+1)) P E O nx ⟨d, .call ⟨.value (.func f),#[x,y,z],tys⟩,ty,ps,af,g⟩ (.os sz nx 0 rows3.length) ((nx,some (.rows sz rows3))::Qaj (ks++ks2) O) (nx+1) (ks++ks2):=by
 subst hr hj
 exact OC.insert hp hq hbd hx hy hz hdis hsc hsc2 hok hok2 hpos hb hlim hi
end
structure D.Used where
 Word:ByteArray
 Issue:Int
def Qem : AK D.Used:=AK.iso (AK.pair AK.string (AK.int .i64)) (fun x=>(x.Word,x.Issue))
def QcI (x:D.Used):Prop:=(x.Word.size≤maxLen)∧((Lit.int .i64 x.Issue).wf=true)
theorem Qfg : ZX Try.prog 57 Qem QcI:=Qb4 (QaA (P:=Try.prog) (t:=57) (fun x:D.Used=>(x.Word,x.Issue)) (fun x=>⟨x.1,x.2⟩) (fun _=>rfl) Try.underlying57 (by kernel_rfl) (QaZ Y (by kernel_rfl) (Y1 Try.underlying9) (Qb6 Y (by kernel_rfl) (Qag (k:= .i64) Try.underlying3)))) (fun _ h=>h)
theorem st1 : Qo Try.prog 1=some false:=by kernel_rfl
theorem st3 : Qo Try.prog 3=some false:=by kernel_rfl
theorem sz3 : Try.prog.cellsOf 3=1:=by kernel_rfl
theorem if3 : (Try.prog.info? 3).isSome=true:=by kernel_rfl
theorem sz5 : Try.prog.cellsOf 5=1:=by kernel_rfl
theorem zo5 : QL Try.prog 5=some (.int .u8 0):=by kernel_rfl
theorem st9 : Qo Try.prog 9=some false:=by kernel_rfl
theorem sz9 : Try.prog.cellsOf 9=1:=by kernel_rfl
theorem if9 : (Try.prog.info? 9).isSome=true:=by kernel_rfl
theorem zo9 : QL Try.prog 9=some (.string ByteArray.empty):=by kernel_rfl
theorem zc9 : closedV (.string ByteArray.empty)=true:=by kernel_rfl
theorem QeR : Qo Try.prog 57=some true:=by kernel_rfl
theorem QdW : Try.prog.cellsOf 57=2:=by kernel_rfl
theorem QeU : (Try.prog.info? 57).isSome=true:=by kernel_rfl
theorem YG : Qo Try.prog 58=some true:=by kernel_rfl
theorem Qu : Try.prog.cellsOf 58=2:=by kernel_rfl
theorem Zz : (Try.prog.info? 58).isSome=true:=by kernel_rfl
theorem Zt : QL Try.prog 58=some (.agg #[.string ByteArray.empty, .int .i64 0]):=by kernel_rfl
theorem QcX : closedV (.agg #[.string ByteArray.empty, .int .i64 0])=true:=by kernel_rfl
theorem QdC (k o:Nat):Qq Try.prog 57 (.pointer (some ⟨k,o,none⟩)) 0=some (.pointer (some ⟨k,o+0,none⟩)):=by simp [Qq,Try.underlying57,if9,sz9]
theorem Qeu (k o:Nat):Qq Try.prog 57 (.pointer (some ⟨k,o,none⟩)) 1=some (.pointer (some ⟨k,o+1,none⟩)):=by simp [Qq,Try.underlying57,if3,sz3]
theorem Zw (k o:Nat):Qq Try.prog 58 (.pointer (some ⟨k,o,none⟩)) 0=some (.pointer (some ⟨k,o+0,none⟩)):=by simp [Qq,Try.underlying58,if9,sz9]
theorem Q4 (k o:Nat):Qq Try.prog 58 (.pointer (some ⟨k,o,none⟩)) 1=some (.pointer (some ⟨k,o+1,none⟩)):=by simp [Qq,Try.underlying58,if3,sz3]
theorem follows : Try.prog.follows .mixedOrders=true:=by kernel_rfl
theorem QcZ : Plain Try.prog:=by
 unfold Plain
 kernel_rfl
noncomputable instance : DecidableEq D.Used:=Classical.typeDecidableEq _
def Qa (m:Bool) (x:D.Used):List T:= [.str x.Word, .int .i64 x.Issue]
theorem okeUsed : EncOk Qa 2:=⟨fun _ _=>rfl,fun x=>Q3 (.str _) (Q3 (.int _ _) (Jk)),fun m x=>by simp only [Qa,fzL,AE.fz],fun m x=>Q3 Y (Q3 Y (Jk)),fun x=>Q3 Y (Q3 Y (Jk))⟩
def Qn (x:D.Used):Nat:=ByteArray.size x.Word
theorem Qcx : Qek Qa:=fun _ _=>rfl
theorem Qew : RK Qem Qa:=QeX (Qev Qej Qeh) (fun _=>rfl)
theorem U3 : Try.prog.underlying 3=some (.int .i64):=Try.underlying3
theorem U4 : Try.prog.underlying 4=some .bool:=Try.underlying4
theorem U5 : Try.prog.underlying 5=some (.int .u8):=Try.underlying5
theorem U9 : Try.prog.underlying 9=some .string:=Try.underlying9
theorem U35 : Try.prog.underlying 35=some (.slice 57):=Try.underlying35
theorem U36 : Try.prog.underlying 36=some (.slice 9):=Try.underlying36
theorem Zg : Try.prog.underlying 39=some (.slice 58):=Try.underlying39
theorem U67 : Try.prog.underlying 67=some (.slice 5):=Try.underlying67
set_option maxRecDepth 20000
set_option maxHeartbeats 2000000
theorem QaJ (n:Nat) (a:D.Used) (left:Int) (h0:0≤left) (h1:left≤(mx:Int)) (hg:QcI a):Pure (Qt Try.prog (n+1)) 36 [(T.agg (Qa false a)),(tI left)] (tI (Yn (Qn a) left)):=by
 refine Pure.intro (rs:= [ResultVar.tmp 4]) Try.func36 Y Y Y (E0:= [(0,(T.agg (Qa false a))),(1,(tI left))]) Y ?_
 obtain ⟨hlim,hmx,hmax⟩:=Zi
 obtain ⟨hg0,hg1⟩:=hg
 refine sr (kO (B.box (ts:=(Qa false a)) (tv (T.agg (Qa false a)) Y) nofun Y) (fO (OF.assign (VEv.int .i64 0)) (nt (sr (mO (tI left) Y (lf (tS a.Word) Y QdC Y Y st9 (lO (B.lenS (tv (tS a.Word) Y) U9) (fO (B.sub (n:=(left - ((a.Word.size:Nat):Int))) (tv (tI left) Y) (tv (tN a.Word.size) Y) (by first | rfl | (rw [QT (by omega)];omega) | (rw [QT (by omega)];done))) (aO (tI (left - ((a.Word.size:Nat):Int))) Y (nt (sq ?_)))))))))))
 refine sr (mO (tI (left - ((a.Word.size:Nat):Int))) Y (fO (xls (tv (tI (left - ((a.Word.size:Nat):Int))) Y) (VEv.int .i64 0)) (nt ?_)))
 refine cd ((left - ((a.Word.size:Nat):Int))<0) Y (fun fhc0=> ?_) fun fhc0=> ?_
 ·refine sr ?_
  refine fO (OF.assign (VEv.int .i64 (-1))) (nt (rt (tr (vi (n':=(-1)) Y ?_))))
  exact Qbk (by simp only [Qn];omega)
 refine sk (tn (sr (mO (tI (left - ((a.Word.size:Nat):Int))) Y (aO (tI (left - ((a.Word.size:Nat):Int))) Y (nt (rt (vi (n':=(left - ((a.Word.size:Nat):Int))) Y ?_)))))))
 rw [← QdJ (z:=Qn a) (l:=left) (by simp only [Qn];omega)]
 all_goals first | rfl | (simp only [Qn];done) | (simp only [Qn];omega)
theorem Qaf (n:Nat) (a:List D.Used) (left:Int) (h0:0≤left) (h1:left≤(mx:Int)) (hg:a.length≤maxLen∧∀x∈a,QcI x):Pure (Qt Try.prog (n+2)) 15 [(rd 2 Qa a),(tI left)] (tI (Yn (zL Qn a) left)):=by
 refine Pure.intro (rs:= [ResultVar.tmp 4]) Try.func15 Y Y Y (E0:= [(0,(rd 2 Qa a)),(1,(tI left))]) Y ?_
 obtain ⟨hlim,hmx,hmax⟩:=Zi
 obtain ⟨hg1,hg2⟩:=hg
 refine sr (fO (OF.assign (VEv.int .i64 0)) (nt (sr (mO (tI left) Y (mO (rd 2 Qa a) Y (lO (B.lenR (m:=a.length) (tv (rd 2 Qa a) Y) U35 (List.length_map ..)) (fO (B.sub (n:=(left - ((a.length:Nat):Int))) (tv (tI left) Y) (tv (tN a.length) Y) (by first | exact hg2 _ (List.mem_of_getElem? hx1) | rfl | (rw [QT (by omega)];omega) | (rw [QT (by omega)];done))) (aO (tI (left - ((a.length:Nat):Int))) Y (nt (sq (sr ?_)))))))))))
 refine mO (tI (left - ((a.length:Nat):Int))) Y (fO (xls (tv (tI (left - ((a.length:Nat):Int))) Y) (VEv.int .i64 0)) (nt ?_))
 refine cd ((left - ((a.length:Nat):Int))<0) Y (fun fhc0=> ?_) fun fhc0=> ?_
 ·refine sr ?_
  refine fO (OF.assign (VEv.int .i64 (-1))) (nt (rt (tr (vi (n':=(-1)) Y ?_))))
  exact SzI.early fhc0
 refine sk (tn (sq (sr (fO (OF.assign (VEv.int .i64 0)) (nt (VRun.block ?_))))))
 refine VRun.loop (A:=Nat×Int) (fun s_=> [(0,(rd 2 Qa a)),(1,(tI s_.2)),(5,(tN s_.1))]) (fun s_=>Yy []) 0 (fun s_=>SzI Qn a left s_.1 s_.2) (fun s_=>a.length - s_.1) ((0,left - (a.length:Int)):Nat×Int) ?_ (Wk.mk (fun k=>k) ?_ ?_ ?_) ?_
 ·exact SzI.start h1 fhc0
 ·exact (b2 (bc ⟨(congrArg (T.int .i64) (show (left - ((a.length:Nat):Int))=(left - (a.length:Int)) from (by first | rfl | omega | (simp;done) | (push_cast;omega)))),rfl⟩ (b2 bn)))
 ·exact bn
 ·exact nd Y
 rintro ⟨i,r⟩ (hI':SzI Qn a left i r)
 show VRun _ _ _ [(0,(rd 2 Qa a)),(1,(tI r)),(5,(tN i))] (Yy []) 0 _
 have hI2:=hI'.1
 have hI3:=hI'.2.1
 have hI4:=hI'.2.2.1
 refine sq (sr (mO (tN i) Y (mO (rd 2 Qa a) Y (lO (B.lenR (m:=a.length) (tv (rd 2 Qa a) Y) U35 (List.length_map ..)) (fO (Yw (tv (tN i) Y) (tv (tN a.length) Y)) (nt ?_))))))
 refine cd (i<a.length) Y (fun fhc1=> ?_) fun fhc1=> ?_
 ·refine sk ?_
  refine tn (sq (VRun.block (sr (mO (rd 2 Qa a) Y (mO (tN i) Y ?_)))))
  obtain ⟨x1,hx1⟩:∃x,a[i]? =some x:=⟨_,List.getElem?_eq_getElem (by first | exact hg2 _ (List.mem_of_getElem? hx1) | omega)⟩
  refine fO (OF.indexAddrR (row:=(Qa false x1)) (i:=i) (tv (rd 2 Qa a) Y) (tv (tN i) Y) Y (QE _ hx1) U35 QdW QeU) (lO (OL.loadRn (us:=(Qa false x1)) (tv (T.rp (Qa false x1)) Y) QeR QdW (lb Y) Y) (mO (tI r) Y (cO (cS (vc (tv (T.agg (Qa false x1)) Y) (vc (tv (tI r) Y) vn)) (LendL.cons (lg okeUsed) (lp Y ln)) (QaJ (n+0) x1 r (by first | exact hg2 _ (List.mem_of_getElem? hx1) | assumption | omega) (by first | exact hg2 _ (List.mem_of_getElem? hx1) | assumption | omega) (by first | exact hg2 _ (List.mem_of_getElem? hx1) | assumption | omega)) Y Y) (aO (tI (Yn (Qn x1) r)) Y (nt (sr (mO (tI (Yn (Qn x1) r)) Y (fO (xls (tv (tI (Yn (Qn x1) r)) Y) (VEv.int .i64 0)) (nt ?_)))))))))
  refine cd (Yn (Qn x1) r<0) Y (fun fhc2=> ?_) fun fhc2=> ?_
  ·refine sr ?_
   refine fO (OF.assign (VEv.int .i64 (-1))) (nt (rt (vinB.r (tr (tr (vinB.r (tr (vi (n':=(-1)) Y ?_))))))))
   exact hI'.bad hx1 fhc2
  refine sk (vinB.n (tn (VRun.region (mO (tN i) Y (fO (Zu (tv (tN i) Y) (VEv.int .i64 1) (by first | exact hg2 _ (List.mem_of_getElem? hx1) | omega)) (aO (tN (i+1)) Y (VRunO.nil (tn ?_))))))))
  refine ⟨((i+1,Yn (Qn x1) r):Nat×Int),?_,?_,Wk.mk (fun k=>k) ?_ ?_ ?_⟩
  ·exact hI'.next hx1 fhc2
  ·first | omega | (simp only [];omega) | (show _<_;omega) | (simp;omega)
  ·exact (b2 (b2 (b2 bn)))
  ·exact bn
  ·exact nd Y
 refine VRun.exit (vthn.e (vthn.e (vinB.e (tn (sr (mO (tI r) Y (aO (tI r) Y (nt (rt (vi (n':=r) Y ?_))))))))))
 exact hI'.done fhc1
theorem Jx (n:Nat) (a:List ByteArray) (left:Int) (h0:0≤left) (h1:left≤(mx:Int)) (hg:a.length≤maxLen∧∀x∈a,x.size≤maxLen):Pure (Qt Try.prog (n+1)) 16 [(rd 1 Qf a),(tI left)] (tI (Yn (zL ByteArray.size a) left)):=by
 refine Pure.intro (rs:= [ResultVar.tmp 4]) Try.func16 Y Y Y (E0:= [(0,(rd 1 Qf a)),(1,(tI left))]) Y ?_
 obtain ⟨hlim,hmx,hmax⟩:=Zi
 obtain ⟨hg1,hg2⟩:=hg
 refine sr (fO (OF.assign (VEv.int .i64 0)) (nt (sr (mO (tI left) Y (mO (rd 1 Qf a) Y (lO (B.lenR (m:=a.length) (tv (rd 1 Qf a) Y) U36 (List.length_map ..)) (fO (B.sub (n:=(left - ((a.length:Nat):Int))) (tv (tI left) Y) (tv (tN a.length) Y) (by first | rfl | (rw [QT (by omega)];omega) | (rw [QT (by omega)];done))) (aO (tI (left - ((a.length:Nat):Int))) Y (nt (sq (sr ?_)))))))))))
 refine mO (tI (left - ((a.length:Nat):Int))) Y (fO (xls (tv (tI (left - ((a.length:Nat):Int))) Y) (VEv.int .i64 0)) (nt ?_))
 refine cd ((left - ((a.length:Nat):Int))<0) Y (fun fhc0=> ?_) fun fhc0=> ?_
 ·refine sr ?_
  refine fO (OF.assign (VEv.int .i64 (-1))) (nt (rt (tr (vi (n':=(-1)) Y ?_))))
  exact SzI.early fhc0
 refine sk (tn (sq (sr (fO (OF.assign (VEv.int .i64 0)) (nt (VRun.block ?_))))))
 refine VRun.loop (A:=Nat×Int) (fun s_=> [(0,(rd 1 Qf a)),(1,(tI s_.2)),(5,(tN s_.1))]) (fun s_=>Yy []) 0 (fun s_=>SzI ByteArray.size a left s_.1 s_.2) (fun s_=>a.length - s_.1) ((0,left - (a.length:Int)):Nat×Int) ?_ (Wk.mk (fun k=>k) ?_ ?_ ?_) ?_
 ·exact SzI.start h1 fhc0
 ·exact (b2 (bc ⟨(congrArg (T.int .i64) (show (left - ((a.length:Nat):Int))=(left - (a.length:Int)) from (by first | rfl | omega | (simp;done) | (push_cast;omega)))),rfl⟩ (b2 bn)))
 ·exact bn
 ·exact nd Y
 rintro ⟨i,r⟩ (hI':SzI ByteArray.size a left i r)
 show VRun _ _ _ [(0,(rd 1 Qf a)),(1,(tI r)),(5,(tN i))] (Yy []) 0 _
 have hI2:=hI'.1
 have hI3:=hI'.2.1
 have hI4:=hI'.2.2.1
 refine sq (sr (mO (tN i) Y (mO (rd 1 Qf a) Y (lO (B.lenR (m:=a.length) (tv (rd 1 Qf a) Y) U36 (List.length_map ..)) (fO (Yw (tv (tN i) Y) (tv (tN a.length) Y)) (nt ?_))))))
 refine cd (i<a.length) Y (fun fhc1=> ?_) fun fhc1=> ?_
 ·refine sk ?_
  refine tn (sq (VRun.block (sr (mO (tI r) Y (mO (rd 1 Qf a) Y (mO (tN i) Y ?_))))))
  obtain ⟨x1,hx1⟩:∃x,a[i]? =some x:=⟨_,List.getElem?_eq_getElem (by omega)⟩
  have hz1:=hg2 _ (List.mem_of_getElem? hx1)
  refine fO (OF.indexAddrR (row:=(Qf false x1)) (i:=i) (tv (rd 1 Qf a) Y) (tv (tN i) Y) Y (QE _ hx1) U36 sz9 if9) (lO (OL.loadR1 (t:=(tS x1)) (tv (T.rp [(tS x1)]) Y) Y st9) (lO (B.lenS (tv (tS x1) Y) U9) (fO (B.sub (n:=(r - ((x1.size:Nat):Int))) (tv (tI r) Y) (tv (tN x1.size) Y) (by first | rfl | (rw [QT (by omega)];omega) | (rw [QT (by omega)];done))) (aO (tI (r - ((x1.size:Nat):Int))) Y (nt (sr (mO (tI (r - ((x1.size:Nat):Int))) Y (fO (xls (tv (tI (r - ((x1.size:Nat):Int))) Y) (VEv.int .i64 0)) (nt ?_)))))))))
  refine cd ((r - ((x1.size:Nat):Int))<0) Y (fun fhc2=> ?_) fun fhc2=> ?_
  ·refine sr ?_
   refine fO (OF.assign (VEv.int .i64 (-1))) (nt (rt (vinB.r (tr (tr (vinB.r (tr (vi (n':=(-1)) Y ?_))))))))
   exact hI'.bad' hx1 fhc2
  refine sk (vinB.n (tn (VRun.region (mO (tN i) Y (fO (Zu (tv (tN i) Y) (VEv.int .i64 1) (by omega)) (aO (tN (i+1)) Y (VRunO.nil (tn ?_))))))))
  refine ⟨((i+1,r - (x1.size:Int)):Nat×Int),?_,?_,Wk.mk (fun k=>k) ?_ ?_ ?_⟩
  ·exact hI'.next' hx1 fhc2
  ·first | omega | (simp only [];omega) | (show _<_;omega) | (simp;omega)
  ·exact (b2 (bc ⟨(congrArg (T.int .i64) (show (r - ((x1.size:Nat):Int))=(r - (x1.size:Int)) from (by first | rfl | omega | (simp;done) | (push_cast;omega)))),rfl⟩ (b2 bn)))
  ·exact bn
  ·exact nd Y
 refine VRun.exit (vthn.e (vthn.e (vinB.e (tn (sr (mO (tI r) Y (aO (tI r) Y (nt (rt (vi (n':=r) Y ?_))))))))))
 exact hI'.done fhc1
theorem QaB (n:Nat) (a:D.Used):Pure (Qt Try.prog (n+1)) 39 [(T.agg (Qa false a))] (T.agg (Qa true a)):=by
 refine Pure.intro (rs:= [ResultVar.cell 2 58]) Try.func39 Y Y Y (E0:= [(0,(T.agg (Qa false a)))]) Y ?_
 obtain ⟨hlim,hmx,hmax⟩:=Zi
 refine sr (kO (B.box (ts:=(Qa false a)) (tv (T.agg (Qa false a)) Y) nofun Y) (kO (B.alloc (t:=(T.agg [(tS ByteArray.empty),(tN 0)])) (ts:= [(tS ByteArray.empty),(tN 0)]) Zt QcX nofun (fun _=> .agg _ _ Y (QaG (RL.cons (.str _) (RL.cons (.int _ _) (RL.nil _))))) Y) (nt (sr (kO (B.alloc (t:=(T.agg [(tS ByteArray.empty),(tN 0)])) (ts:= [(tS ByteArray.empty),(tN 0)]) Zt QcX nofun (fun _=> .agg _ _ Y (QaG (RL.cons (.str _) (RL.cons (.int _ _) (RL.nil _))))) Y) (nt (sr (lf (tS a.Word) Y QdC Y Y st9 (fO (OF.fieldAddrO (tv (T.op 2 0) Y) Zw) (cO (B.storeO (us:= [(tS a.Word)]) (ws:= [(tS a.Word),(tN 0)]) (tv (T.op 2 0) Y) (tv (tS a.Word) Y) nofun Y Y (lb Y) if9 sz9 (bc Y bn) Y) (nt ?_)))))))))))
 refine sr (lf (tI a.Issue) Y Qeu Y Y st3 (fO (OF.fieldAddrO (tv (T.op 2 0) Y) Q4) (cO (B.storeO (us:= [(tI a.Issue)]) (ws:= [(tS a.Word),(tI a.Issue)]) (tv (T.op 2 1) Y) (tv (tI a.Issue) Y) nofun Y Y (lb Y) if3 sz3 (bc Y bn) Y) (nt (sr (lO (OL.loadOn (us:=(Qa false a)) (tv (T.op 2 0) Y) Y YG Qu (lb Y) Y) (cO (B.storeW (us:=(Qa false a)) (tv (T.op 1 0) Y) (tv (T.agg (Qa false a)) Y) nofun Y Y Y Zz Qu (bc Y (bc Y bn))) (nt (rt ?_)))))))))
 refine vfin.eq (r':=(T.agg (Qa false a))) ?_ (vfin.r (VRes.celln (ws:=(Qa false a)) Y Y YG Qu (lb Y) Y VRes.nil) (Give.agg (GiveL.cons (Give.str _) (GiveL.cons (Give.int _ _) GiveL.nil (by decide)) (by decide))))
 first | rfl | (exact ZZ (by omega)) | (symm;rw [decide_eq_false_iff_not];omega) | (symm;rw [decide_eq_true_eq];omega) | (simp_all;done)
theorem Ze (n:Nat) (a:List D.Used) (ha:a.length≤mx):Pure (Qt Try.prog (n+2)) 18 [(rd 2 Qa a)] (T.sl true 2 (a.map (Qa true))):=by
 refine Pure.intro (rs:= [ResultVar.tmp 2]) Try.func18 Y Y Y (E0:= [(0,(rd 2 Qa a))]) Y ?_
 obtain ⟨hlim,hmx,hmax⟩:=Zi
 refine sr (fO (OF.assign VEv.nils) (nt (sr (mO (rd 2 Qa a) Y (lO (B.lenR (m:=a.length) (tv (rd 2 Qa a) Y) U35 (List.length_map ..)) (kO (B.makeZ (n:=a.length) (m:=((List.replicate a.length (D.Used.mk ByteArray.empty 0)).map (Qa true)).length) (rows:=((List.replicate a.length (D.Used.mk ByteArray.empty 0)).map (Qa true))) (zr:=(Qa true (D.Used.mk ByteArray.empty 0))) (tv (tN a.length) Y) (tv (tN a.length) Y) Y Zg Zt QcX Y (by rw [Qu];decide) (by first | omega | (simp only [List.length_map];omega) | (simp only [List.length_map,List.length_append,List.length_cons,List.length_nil,List.length_replicate,List.length_set,List.length_drop,List.length_take,QS] at *;omega)) (of_decide_eq_true (by kernel_rfl)) (Z0.str (Z0.int Z0.nil)) Qu (List.map_replicate ..).symm (by rw [List.length_map,List.length_replicate])) (aO (T.os 2 0 0 (((List.replicate a.length (D.Used.mk ByteArray.empty 0)).map (Qa true)).length)) Y (nt (sq (sr (fO (OF.assign (VEv.int .i64 0)) ?_)))))))))))
 refine nt (VRun.block ?_)
 have he1:(List.replicate a.length (D.Used.mk ByteArray.empty 0))=(a.take 0++List.replicate (a.length - 0) (D.Used.mk ByteArray.empty 0)):=by first | rfl | (exact YV hx1) | (simp;done) | omega
 refine VRun.loop (A:=Nat) (fun s_=> [(0,(rd 2 Qa a)),(2,T.nils),(3,(T.os 2 0 0 (((a.take s_++List.replicate (a.length - s_) (D.Used.mk ByteArray.empty 0)).map (Qa true)).length))),(4,(tN s_))]) (fun s_=>Yy [(0,(Obj.rows 2 ((a.take s_++List.replicate (a.length - s_) (D.Used.mk ByteArray.empty 0)).map (Qa true))))]) 1 (fun s_=>s_≤a.length) (fun s_=>a.length - s_) (0:Nat) ?_ (Wk.mk (fun k=>k) ?_ ?_ ?_) ?_
 ·first | trivial | (simp;done) | omega | (constructor<;>simp)
 ·exact (b2 (b2 (bc ⟨(congrArg (fun l_=>T.os 2 0 0 (List.map (Qa true) l_).length) he1),rfl⟩ (b2 bn))))
 ·exact (bc ⟨(congrArg (fun l_=>some (Obj.rows 2 (List.map (Qa true) l_))) he1),(lb Y),rfl⟩ bn)
 ·exact nd Y
 rintro i (hI':i≤a.length)
 show VRun _ _ _ [(0,(rd 2 Qa a)),(2,T.nils),(3,(T.os 2 0 0 (((a.take i++List.replicate (a.length - i) (D.Used.mk ByteArray.empty 0)).map (Qa true)).length))),(4,(tN i))] (Yy [(0,(Obj.rows 2 ((a.take i++List.replicate (a.length - i) (D.Used.mk ByteArray.empty 0)).map (Qa true))))]) 1 _
 have hfl:=QcF (w:=(D.Used.mk ByteArray.empty 0)) hI'
 refine sq (sr (mO (tN i) Y (mO (rd 2 Qa a) Y (lO (B.lenR (m:=a.length) (tv (rd 2 Qa a) Y) U35 (List.length_map ..)) (fO (Yw (tv (tN i) Y) (tv (tN a.length) Y)) (nt ?_))))))
 refine cd (i<a.length) Y (fun fhc0=> ?_) fun fhc0=> ?_
 ·refine sk ?_
  refine tn (sq (VRun.block (VRun.region (mO (T.os 2 0 0 (((a.take i++List.replicate (a.length - i) (D.Used.mk ByteArray.empty 0)).map (Qa true)).length)) Y (mO (tN i) Y (mO (rd 2 Qa a) Y (mO (tN i) Y ?_)))))))
  obtain ⟨x1,hx1⟩:∃x,a[i]? =some x:=⟨_,List.getElem?_eq_getElem (by omega)⟩
  refine fO (OF.indexAddrR (row:=(Qa false x1)) (i:=i) (tv (rd 2 Qa a) Y) (tv (tN i) Y) Y (QE _ hx1) U35 QdW QeU) (lO (OL.loadRn (us:=(Qa false x1)) (tv (T.rp (Qa false x1)) Y) QeR QdW (lb Y) Y) (cO (cS (vc (tv (T.agg (Qa false x1)) Y) vn) (LendL.cons (lg okeUsed) ln) (QaB (n+0) x1) Y Y) ?_))
  obtain ⟨x2,hx2⟩:∃x,(a.take i++List.replicate (a.length - i) (D.Used.mk ByteArray.empty 0))[i]? =some x:=⟨_,List.getElem?_eq_getElem (by first | omega | (simp only [List.length_map];omega) | (simp only [List.length_map,List.length_append,List.length_cons,List.length_nil,List.length_replicate,List.length_set,List.length_drop,List.length_take,QS] at *;omega))⟩
  refine fO (B.indexAddrO (i:=i) (tv (T.os 2 0 0 (((a.take i++List.replicate (a.length - i) (D.Used.mk ByteArray.empty 0)).map (Qa true)).length)) Y) (tv (tN i) Y) Y (by first | omega | (simp only [List.length_map];omega) | (simp only [List.length_map,List.length_append,List.length_cons,List.length_nil,List.length_replicate,List.length_set,List.length_drop,List.length_take,QS] at *;omega)) Zg Qu Zz) (cO (B.storeP (us:=(Qa true x1)) (rows':=(((a.take i++List.replicate (a.length - i) (D.Used.mk ByteArray.empty 0)).set i x1).map (Qa true))) (row:=(Qa true x2)) (tv (T.orp 2 0 i 0) Y) (tv (T.agg (Qa true x1)) Y) nofun Y (QE _ hx2) Y (lb Y) Zz Qu (bc Y (bc Y bn)) (by intro r hr t ht;obtain ⟨x,_,rfl⟩:=List.mem_map.1 hr;rw [Qcx] at ht;exact Z7 (okeUsed.pl _ t ht)) (YA Y)) (VRunO.nil (vinB.n (tn (VRun.region (mO (tN i) Y (fO (Zu (tv (tN i) Y) (VEv.int .i64 1) (by omega)) (aO (tN (i+1)) Y (VRunO.nil (tn ?_))))))))))
  have he2:((a.take i++List.replicate (a.length - i) (D.Used.mk ByteArray.empty 0)).set i x1)=(a.take (i+1)++List.replicate (a.length - (i+1)) (D.Used.mk ByteArray.empty 0)):=by first | rfl | (exact YV hx1) | (simp;done) | omega
  refine ⟨(i+1:Nat),?_,?_,Wk.mk (fun k=>k) ?_ ?_ ?_⟩
  ·first | trivial | omega | (simp;done) | exact ⟨by omega,hI'.2⟩
  ·first | omega | (simp only [];omega) | (show _<_;omega) | (simp;omega)
  ·exact (b2 (b2 (bc ⟨(congrArg (fun n_=>T.os 2 0 0 n_) (show ((a.take i++List.replicate (a.length - i) (D.Used.mk ByteArray.empty 0)).map (Qa true)).length=((a.take (i+1)++List.replicate (a.length - (i+1)) (D.Used.mk ByteArray.empty 0)).map (Qa true)).length from (by first | rfl | (simp only [List.length_map];omega) | (simp only [List.length_map,List.length_set,List.length_append,List.length_take,List.length_replicate,List.length_cons,List.length_nil];omega)))),rfl⟩ (b2 bn))))
  ·exact (bc ⟨(congrArg (fun l_=>some (Obj.rows 2 (List.map (Qa true) l_))) he2),(lb Y),rfl⟩ bn)
  ·exact nd Y
 refine VRun.exit (vthn.e (vthn.e (vinB.e (tn (sr (mO (T.os 2 0 0 (((a.take i++List.replicate (a.length - i) (D.Used.mk ByteArray.empty 0)).map (Qa true)).length)) Y (aO (T.os 2 0 0 (((a.take i++List.replicate (a.length - i) (D.Used.mk ByteArray.empty 0)).map (Qa true)).length)) Y (nt (rt ?_)))))))))
 refine vfin.eq (r':=(T.sl true 2 ((a.take i++List.replicate (a.length - i) (D.Used.mk ByteArray.empty 0)).map (Qa true)))) ?_ (vfin.r (VRes.tmp (t:=(T.os 2 0 0 (((a.take i++List.replicate (a.length - i) (D.Used.mk ByteArray.empty 0)).map (Qa true)).length))) Y VRes.nil) (Give.os Y Y (okeUsed.cleanMap _)))
 refine congrArg (fun l_=>T.sl true 2 (List.map (Qa true) l_)) ?_
 exact QaL fhc0
theorem Q2 (n:Nat) (a:List ByteArray) (ha:a.length≤mx):Pure (Qt Try.prog (n+1)) 19 [(rd 1 Qf a)] (T.sl true 1 (a.map (Qf true))):=by
 refine Pure.intro (rs:= [ResultVar.tmp 2]) Try.func19 Y Y Y (E0:= [(0,(rd 1 Qf a))]) Y ?_
 obtain ⟨hlim,hmx,hmax⟩:=Zi
 refine sr (fO (OF.assign VEv.nils) (nt (sr (mO (rd 1 Qf a) Y (lO (B.lenR (m:=a.length) (tv (rd 1 Qf a) Y) U36 (List.length_map ..)) (kO (B.makeZ (n:=a.length) (m:=((List.replicate a.length ByteArray.empty).map (Qf true)).length) (rows:=((List.replicate a.length ByteArray.empty).map (Qf true))) (zr:=(Qf true ByteArray.empty)) (tv (tN a.length) Y) (tv (tN a.length) Y) Y U36 zo9 zc9 Y (by rw [sz9];decide) (by first | omega | (simp only [List.length_map];omega) | (simp only [List.length_map,List.length_append,List.length_cons,List.length_nil,List.length_replicate,List.length_set,List.length_drop,List.length_take,QS] at *;omega)) (of_decide_eq_true (by kernel_rfl)) (Z0.str Z0.nil) sz9 (List.map_replicate ..).symm (by rw [List.length_map,List.length_replicate])) (aO (T.os 1 0 0 (((List.replicate a.length ByteArray.empty).map (Qf true)).length)) Y (nt (sq (sr (fO (OF.assign (VEv.int .i64 0)) ?_)))))))))))
 refine nt (VRun.block ?_)
 have he1:(List.replicate a.length ByteArray.empty)=(a.take 0++List.replicate (a.length - 0) ByteArray.empty):=by first | rfl | (exact YV hx1) | (simp;done) | omega
 refine VRun.loop (A:=Nat) (fun s_=> [(0,(rd 1 Qf a)),(2,T.nils),(3,(T.os 1 0 0 (((a.take s_++List.replicate (a.length - s_) ByteArray.empty).map (Qf true)).length))),(4,(tN s_))]) (fun s_=>Yy [(0,(Obj.rows 1 ((a.take s_++List.replicate (a.length - s_) ByteArray.empty).map (Qf true))))]) 1 (fun s_=>s_≤a.length) (fun s_=>a.length - s_) (0:Nat) ?_ (Wk.mk (fun k=>k) ?_ ?_ ?_) ?_
 ·first | trivial | (simp;done) | omega | (constructor<;>simp)
 ·exact (b2 (b2 (bc ⟨(congrArg (fun l_=>T.os 1 0 0 (List.map (Qf true) l_).length) he1),rfl⟩ (b2 bn))))
 ·exact (bc ⟨(congrArg (fun l_=>some (Obj.rows 1 (List.map (Qf true) l_))) he1),(lb Y),rfl⟩ bn)
 ·exact nd Y
 rintro i (hI':i≤a.length)
 show VRun _ _ _ [(0,(rd 1 Qf a)),(2,T.nils),(3,(T.os 1 0 0 (((a.take i++List.replicate (a.length - i) ByteArray.empty).map (Qf true)).length))),(4,(tN i))] (Yy [(0,(Obj.rows 1 ((a.take i++List.replicate (a.length - i) ByteArray.empty).map (Qf true))))]) 1 _
 have hfl:=QcF (w:=ByteArray.empty) hI'
 refine sq (sr (mO (tN i) Y (mO (rd 1 Qf a) Y (lO (B.lenR (m:=a.length) (tv (rd 1 Qf a) Y) U36 (List.length_map ..)) (fO (Yw (tv (tN i) Y) (tv (tN a.length) Y)) (nt ?_))))))
 refine cd (i<a.length) Y (fun fhc0=> ?_) fun fhc0=> ?_
 ·refine sk ?_
  refine tn (sq (VRun.block (VRun.region (mO (T.os 1 0 0 (((a.take i++List.replicate (a.length - i) ByteArray.empty).map (Qf true)).length)) Y (mO (tN i) Y (mO (rd 1 Qf a) Y (mO (tN i) Y ?_)))))))
  obtain ⟨x1,hx1⟩:∃x,a[i]? =some x:=⟨_,List.getElem?_eq_getElem (by omega)⟩
  refine fO (OF.indexAddrR (row:=(Qf false x1)) (i:=i) (tv (rd 1 Qf a) Y) (tv (tN i) Y) Y (QE _ hx1) U36 sz9 if9) (lO (OL.loadR1 (t:=(tS x1)) (tv (T.rp [(tS x1)]) Y) Y st9) ?_)
  obtain ⟨x2,hx2⟩:∃x,(a.take i++List.replicate (a.length - i) ByteArray.empty)[i]? =some x:=⟨_,List.getElem?_eq_getElem (by first | omega | (simp only [List.length_map];omega) | (simp only [List.length_map,List.length_append,List.length_cons,List.length_nil,List.length_replicate,List.length_set,List.length_drop,List.length_take,QS] at *;omega))⟩
  refine fO (B.indexAddrO (i:=i) (tv (T.os 1 0 0 (((a.take i++List.replicate (a.length - i) ByteArray.empty).map (Qf true)).length)) Y) (tv (tN i) Y) Y (by first | omega | (simp only [List.length_map];omega) | (simp only [List.length_map,List.length_append,List.length_cons,List.length_nil,List.length_replicate,List.length_set,List.length_drop,List.length_take,QS] at *;omega)) U36 sz9 if9) (cO (B.storeP (us:= [(tS x1)]) (rows':=(((a.take i++List.replicate (a.length - i) ByteArray.empty).set i x1).map (Qf true))) (row:=(Qf true x2)) (tv (T.orp 1 0 i 0) Y) (tv (tS x1) Y) nofun Y (QE _ hx2) Y (lb Y) if9 sz9 (bc Y bn) (by intro r hr t ht;obtain ⟨x,_,rfl⟩:=List.mem_map.1 hr;rw [Qeg] at ht;exact Z7 (okStr.pl _ t ht)) (YA Y)) (VRunO.nil (vinB.n (tn (VRun.region (mO (tN i) Y (fO (Zu (tv (tN i) Y) (VEv.int .i64 1) (by omega)) (aO (tN (i+1)) Y (VRunO.nil (tn ?_))))))))))
  have he2:((a.take i++List.replicate (a.length - i) ByteArray.empty).set i x1)=(a.take (i+1)++List.replicate (a.length - (i+1)) ByteArray.empty):=by first | rfl | (exact YV hx1) | (simp;done) | omega
  refine ⟨(i+1:Nat),?_,?_,Wk.mk (fun k=>k) ?_ ?_ ?_⟩
  ·first | trivial | omega | (simp;done) | exact ⟨by omega,hI'.2⟩
  ·first | omega | (simp only [];omega) | (show _<_;omega) | (simp;omega)
  ·exact (b2 (b2 (bc ⟨(congrArg (fun n_=>T.os 1 0 0 n_) (show ((a.take i++List.replicate (a.length - i) ByteArray.empty).map (Qf true)).length=((a.take (i+1)++List.replicate (a.length - (i+1)) ByteArray.empty).map (Qf true)).length from (by first | rfl | (simp only [List.length_map];omega) | (simp only [List.length_map,List.length_set,List.length_append,List.length_take,List.length_replicate,List.length_cons,List.length_nil];omega)))),rfl⟩ (b2 bn))))
  ·exact (bc ⟨(congrArg (fun l_=>some (Obj.rows 1 (List.map (Qf true) l_))) he2),(lb Y),rfl⟩ bn)
  ·exact nd Y
 refine VRun.exit (vthn.e (vthn.e (vinB.e (tn (sr (mO (T.os 1 0 0 (((a.take i++List.replicate (a.length - i) ByteArray.empty).map (Qf true)).length)) Y (aO (T.os 1 0 0 (((a.take i++List.replicate (a.length - i) ByteArray.empty).map (Qf true)).length)) Y (nt (rt ?_)))))))))
 refine vfin.eq (r':=(T.sl true 1 ((a.take i++List.replicate (a.length - i) ByteArray.empty).map (Qf true)))) ?_ (vfin.r (VRes.tmp (t:=(T.os 1 0 0 (((a.take i++List.replicate (a.length - i) ByteArray.empty).map (Qf true)).length))) Y VRes.nil) (Give.os Y Y (okStr.cleanMap _)))
 refine congrArg (fun l_=>T.sl true 1 (List.map (Qf true) l_)) ?_
 exact QaL fhc0
theorem QaH (n:Nat) (a:D.Used) (b:D.Used):Pure (Qt Try.prog (n+1)) 44 [(T.agg (Qa false a)),(T.agg (Qa false b))] (tB (decide (a=b))):=by
 refine Pure.intro (rs:= [ResultVar.tmp 4]) Try.func44 Y Y Y (E0:= [(0,(T.agg (Qa false a))),(1,(T.agg (Qa false b)))]) Y ?_
 obtain ⟨hlim,hmx,hmax⟩:=Zi
 refine sr (kO (B.box (ts:=(Qa false a)) (tv (T.agg (Qa false a)) Y) nofun Y) (kO (B.box (ts:=(Qa false b)) (tv (T.agg (Qa false b)) Y) nofun Y) (fO (OF.assign (VEv.bool false)) (nt (sq (sr (lf (tS a.Word) Y Zw Y Y st9 (lf (tS b.Word) Y Zw Y Y st9 (fO (B.sneq (c:=(!(decide (a.Word=b.Word)))) (tv (tS a.Word) Y) (tv (tS b.Word) Y) Y) (nt ?_))))))))))
 refine cn (a.Word=b.Word) Y (fun fhc0=> ?_) fun fhc0=> ?_
 ·refine sr ?_
  refine fO (OF.assign (VEv.bool false)) (nt (rt (tr (vb (b':=false) Y ?_))))
  obtain ⟨a0,a1⟩:=a
  obtain ⟨b0,b1⟩:=b
  simp_all
 refine sk (tn (sq (sr (lf (tI a.Issue) Y Q4 Y Y st3 (lf (tI b.Issue) Y Q4 Y Y st3 (fO (xne (tv (tI a.Issue) Y) (tv (tI b.Issue) Y)) (nt ?_)))))))
 refine cn (a.Issue=b.Issue) Y (fun fhc1=> ?_) fun fhc1=> ?_
 ·refine sr ?_
  refine fO (OF.assign (VEv.bool false)) (nt (rt (tr (vb (b':=false) Y ?_))))
  obtain ⟨a0,a1⟩:=a
  obtain ⟨b0,b1⟩:=b
  simp_all
 refine sk (tn (sr (fO (OF.assign (VEv.bool true)) (nt (rt (vb (b':=true) Y ?_))))))
 obtain ⟨a0,a1⟩:=a
 obtain ⟨b0,b1⟩:=b
 simp_all
theorem Zd (n:Nat) (a:List D.Used) (b:List D.Used) (hla:a.length≤mx) (hlb:b.length≤mx):Pure (Qt Try.prog (n+2)) 21 [(rd 2 Qa a),(rd 2 Qa b)] (tB (decide (a=b))):=by
 refine Pure.intro (rs:= [ResultVar.tmp 4]) Try.func21 Y Y Y (E0:= [(0,(rd 2 Qa a)),(1,(rd 2 Qa b))]) Y ?_
 obtain ⟨hlim,hmx,hmax⟩:=Zi
 refine sr (fO (OF.assign (VEv.bool false)) (nt (sq (sr (mO (rd 2 Qa a) Y (lO (B.lenR (m:=a.length) (tv (rd 2 Qa a) Y) Zg (List.length_map ..)) (mO (rd 2 Qa b) Y (lO (B.lenR (m:=b.length) (tv (rd 2 Qa b) Y) Zg (List.length_map ..)) (fO (QcW (tv (tN a.length) Y) (tv (tN b.length) Y)) (nt ?_))))))))))
 refine cn (a.length=b.length) Y (fun fhc0=> ?_) fun fhc0=> ?_
 ·refine sr ?_
  refine fO (OF.assign (VEv.bool false)) (nt (rt (tr (vb (b':=false) Y ?_))))
  symm;rw [decide_eq_false_iff_not];rintro rfl;exact fhc0 Y
 refine sk (tn (sq (sr (fO (OF.assign (VEv.int .i64 0)) (nt (VRun.block ?_))))))
 refine VRun.loop (A:=Nat) (fun s_=> [(0,(rd 2 Qa a)),(1,(rd 2 Qa b)),(5,(tN s_))]) (fun s_=>Yy []) 0 (fun s_=>s_≤a.length∧∀j,j<s_→a[j]? =b[j]?) (fun s_=>a.length - s_) (0:Nat) ?_ (Wk.mk (fun k=>k) ?_ ?_ ?_) ?_
 ·first | trivial | (simp;done) | omega | (constructor<;>simp)
 ·exact (b2 (b2 (b2 bn)))
 ·exact bn
 ·exact nd Y
 rintro i (hI':i≤a.length∧∀j,j<i→a[j]? =b[j]?)
 show VRun _ _ _ [(0,(rd 2 Qa a)),(1,(rd 2 Qa b)),(5,(tN i))] (Yy []) 0 _
 refine sq (sr (mO (tN i) Y (mO (rd 2 Qa a) Y (lO (B.lenR (m:=a.length) (tv (rd 2 Qa a) Y) Zg (List.length_map ..)) (fO (Yw (tv (tN i) Y) (tv (tN a.length) Y)) (nt ?_))))))
 refine cd (i<a.length) Y (fun fhc1=> ?_) fun fhc1=> ?_
 ·refine sk ?_
  refine tn (sq (VRun.block (sq (VRun.draw (B:= [[],[],[1,0],[0,1,2],[],[],[5,4],[4,5,6],[6,5,4,7,2,1,0,3],[3,0,1,2,7,4,5,6,8]]) (by kernel_rfl) (by kernel_rfl) (mD (rd 2 Qa a) Y Y (mD (tN i) Y Y ?_))))))
  obtain ⟨x1,hx1⟩:∃x,a[i]? =some x:=⟨_,List.getElem?_eq_getElem (by omega)⟩
  refine fD (OF.indexAddrR (row:=(Qa false x1)) (i:=i) (tv (rd 2 Qa a) Y) (tv (tN i) Y) Y (QE _ hx1) Zg Qu Zz) Y Y (lD (OL.loadRn (us:=(Qa false x1)) (tv (T.rp (Qa false x1)) Y) YG Qu (lb Y) Y) Y Y (mD (rd 2 Qa b) Y Y (mD (tN i) Y Y ?_)))
  obtain ⟨x2,hx2⟩:∃x,b[i]? =some x:=⟨_,List.getElem?_eq_getElem (by omega)⟩
  refine fD (OF.indexAddrR (row:=(Qa false x2)) (i:=i) (tv (rd 2 Qa b) Y) (tv (tN i) Y) Y (QE _ hx2) Zg Qu Zz) Y Y (lD (OL.loadRn (us:=(Qa false x2)) (tv (T.rp (Qa false x2)) Y) YG Qu (lb Y) Y) Y Y (VRunD.quiet (bi:= [6,5,4,7,2,1,0,3]) Y VWant.always Y Y Y bn (cS (vc (tv (T.agg (Qa false x1)) Y) (vc (tv (T.agg (Qa false x2)) Y) vn)) (LendL.cons (lg okeUsed) (LendL.cons (lg okeUsed) ln)) (QaH (n+0) x1 x2) Y Y) (fD (Yl (tv (tB (decide (x1=x2))) Y)) Y Y (VRunD.nil (tn ?_)))))
  refine cn (x1=x2) Y (fun fhc2=> ?_) fun fhc2=> ?_
  ·refine sr ?_
   refine fO (OF.assign (VEv.bool false)) (nt (rt (vinB.r (tr (tr (vinB.r (tr (vb (b':=false) Y ?_))))))))
   symm;rw [decide_eq_false_iff_not];exact QaM hx1 hx2 fhc2
  refine sk (vinB.n (tn (VRun.region (mO (tN i) Y (fO (Zu (tv (tN i) Y) (VEv.int .i64 1) (by omega)) (aO (tN (i+1)) Y (VRunO.nil (tn ?_))))))))
  refine ⟨(i+1:Nat),?_,?_,Wk.mk (fun k=>k) ?_ ?_ ?_⟩
  ·exact Qam hI' hx1 hx2 fhc2
  ·first | omega | (simp only [];omega) | (show _<_;omega) | (simp;omega)
  ·exact (b2 (b2 (b2 bn)))
  ·exact bn
  ·exact nd Y
 refine VRun.exit (vthn.e (vthn.e (vinB.e (tn (sr (fO (OF.assign (VEv.bool true)) (nt (rt (vb (b':=true) Y ?_)))))))))
 symm;rw [decide_eq_true_eq];exact QaV hI' fhc0 fhc1
theorem JA (n:Nat) (a:List ByteArray) (b:List ByteArray) (hla:a.length≤mx) (hlb:b.length≤mx):Pure (Qt Try.prog (n+1)) 22 [(rd 1 Qf a),(rd 1 Qf b)] (tB (decide (a=b))):=by
 refine Pure.intro (rs:= [ResultVar.tmp 4]) Try.func22 Y Y Y (E0:= [(0,(rd 1 Qf a)),(1,(rd 1 Qf b))]) Y ?_
 obtain ⟨hlim,hmx,hmax⟩:=Zi
 refine sr (fO (OF.assign (VEv.bool false)) (nt (sq (sr (mO (rd 1 Qf a) Y (lO (B.lenR (m:=a.length) (tv (rd 1 Qf a) Y) U36 (List.length_map ..)) (mO (rd 1 Qf b) Y (lO (B.lenR (m:=b.length) (tv (rd 1 Qf b) Y) U36 (List.length_map ..)) (fO (QcW (tv (tN a.length) Y) (tv (tN b.length) Y)) (nt ?_))))))))))
 refine cn (a.length=b.length) Y (fun fhc0=> ?_) fun fhc0=> ?_
 ·refine sr ?_
  refine fO (OF.assign (VEv.bool false)) (nt (rt (tr (vb (b':=false) Y ?_))))
  symm;rw [decide_eq_false_iff_not];rintro rfl;exact fhc0 Y
 refine sk (tn (sq (sr (fO (OF.assign (VEv.int .i64 0)) (nt (VRun.block ?_))))))
 refine VRun.loop (A:=Nat) (fun s_=> [(0,(rd 1 Qf a)),(1,(rd 1 Qf b)),(5,(tN s_))]) (fun s_=>Yy []) 0 (fun s_=>s_≤a.length∧∀j,j<s_→a[j]? =b[j]?) (fun s_=>a.length - s_) (0:Nat) ?_ (Wk.mk (fun k=>k) ?_ ?_ ?_) ?_
 ·first | trivial | (simp;done) | omega | (constructor<;>simp)
 ·exact (b2 (b2 (b2 bn)))
 ·exact bn
 ·exact nd Y
 rintro i (hI':i≤a.length∧∀j,j<i→a[j]? =b[j]?)
 show VRun _ _ _ [(0,(rd 1 Qf a)),(1,(rd 1 Qf b)),(5,(tN i))] (Yy []) 0 _
 refine sq (sr (mO (tN i) Y (mO (rd 1 Qf a) Y (lO (B.lenR (m:=a.length) (tv (rd 1 Qf a) Y) U36 (List.length_map ..)) (fO (Yw (tv (tN i) Y) (tv (tN a.length) Y)) (nt ?_))))))
 refine cd (i<a.length) Y (fun fhc1=> ?_) fun fhc1=> ?_
 ·refine sk ?_
  refine tn (sq (VRun.block (sq (VRun.draw (B:= [[],[],[1,0],[0,1,2],[],[],[5,4],[4,5,6],[6,5,4,7,2,1,0,3]]) (by kernel_rfl) (by kernel_rfl) (mD (rd 1 Qf a) Y Y (mD (tN i) Y Y ?_))))))
  obtain ⟨x1,hx1⟩:∃x,a[i]? =some x:=⟨_,List.getElem?_eq_getElem (by omega)⟩
  refine fD (OF.indexAddrR (row:=(Qf false x1)) (i:=i) (tv (rd 1 Qf a) Y) (tv (tN i) Y) Y (QE _ hx1) U36 sz9 if9) Y Y (lD (OL.loadR1 (t:=(tS x1)) (tv (T.rp [(tS x1)]) Y) Y st9) Y Y (mD (rd 1 Qf b) Y Y (mD (tN i) Y Y ?_)))
  obtain ⟨x2,hx2⟩:∃x,b[i]? =some x:=⟨_,List.getElem?_eq_getElem (by omega)⟩
  refine fD (OF.indexAddrR (row:=(Qf false x2)) (i:=i) (tv (rd 1 Qf b) Y) (tv (tN i) Y) Y (QE _ hx2) U36 sz9 if9) Y Y (lD (OL.loadR1 (t:=(tS x2)) (tv (T.rp [(tS x2)]) Y) Y st9) Y Y (fD (B.sneq (c:=(!(decide (x1=x2)))) (tv (tS x1) Y) (tv (tS x2) Y) Y) Y Y (VRunD.nil (tn ?_))))
  refine cn (x1=x2) Y (fun fhc2=> ?_) fun fhc2=> ?_
  ·refine sr ?_
   refine fO (OF.assign (VEv.bool false)) (nt (rt (vinB.r (tr (tr (vinB.r (tr (vb (b':=false) Y ?_))))))))
   symm;rw [decide_eq_false_iff_not];exact QaM hx1 hx2 fhc2
  refine sk (vinB.n (tn (VRun.region (mO (tN i) Y (fO (Zu (tv (tN i) Y) (VEv.int .i64 1) (by omega)) (aO (tN (i+1)) Y (VRunO.nil (tn ?_))))))))
  refine ⟨(i+1:Nat),?_,?_,Wk.mk (fun k=>k) ?_ ?_ ?_⟩
  ·exact Qam hI' hx1 hx2 fhc2
  ·first | omega | (simp only [];omega) | (show _<_;omega) | (simp;omega)
  ·exact (b2 (b2 (b2 bn)))
  ·exact bn
  ·exact nd Y
 refine VRun.exit (vthn.e (vthn.e (vinB.e (tn (sr (fO (OF.assign (VEv.bool true)) (nt (rt (vb (b':=true) Y ?_)))))))))
 symm;rw [decide_eq_true_eq];exact QaV hI' fhc0 fhc1
noncomputable section
theorem YS {ok:Nat→Prop} {i n:Nat} (h:i≤n∧∀j,j<i→ok j) (hi:i<n) (hk:ok i):i+1≤n∧∀j,j<i+1→ok j:=by
 refine ⟨hi,fun j hj=> ?_⟩
 rcases Nat.lt_or_ge j i with h1 | h1
 ·exact h.2 j h1
 ·obtain rfl:j=i:=by omega
  exact hk
theorem Zn {ok:Nat→Prop} {i n:Nat} (h:i≤n∧∀j,j<i→ok j) (hi:¬i<n):∀j,j<n→ok j:=fun j hj=>h.2 j (by omega)
theorem QB {α:Type} {l:List α} {i:Nat} {x y:α} (hx:l[i]? =some x) (hy:l[i]? =some y):y=x:=by
 rw [hx] at hy
 exact (Option.some.inj hy).symm
def Q7 (s:ByteArray):Prop:=(1≤s.size∧s.size≤8)∧∀i,i<s.size→97≤Je s i∧Je s i≤122
instance (s:ByteArray):Decidable (Q7 s):=Classical.propDecidable _
def QU (a b:ByteArray):Bool:=if a.size=b.size then Op.bytesLess a.toList b.toList else decide (a.size<b.size)
end
theorem JP (n:Nat) (a:Int) (b:Int) (c:Int):Pure (Qt Try.prog (n+1)) 45 [(tI a),(tI b),(tI c)] (tB (decide (b≤a∧a≤c))):=by
 refine Pure.intro (rs:= [ResultVar.tmp 6]) Try.func45 Y Y Y (E0:= [(0,(tI a)),(1,(tI b)),(2,(tI c))]) Y ?_
 obtain ⟨hlim,hmx,hmax⟩:=Zi
 refine sr (fO (OF.assign (VEv.bool false)) (nt (sr (mO (tI a) Y (mO (tI b) Y (fO (xge (tv (tI a) Y) (tv (tI b) Y)) (mO (tB (decide (b≤a))) Y ?_)))))))
 refine gw (b≤a) (fun fhg10_1=> ?_) fun fhg10_1=> ?_
 ·refine gF (dy fhg10_1) Y Y (OF.move (tv (tI a) Y)) ?_
  refine gF (dy fhg10_1) Y Y (OF.move (tv (tI c) Y)) (gF (dy fhg10_1) Y Y (xle (tv (tI a) Y) (tv (tI c) Y)) (fO (OF.pickT (VEv.tmpB Y (dy fhg10_1)) (tv (tB (decide (a≤c))) Y)) (aO (tB (decide (a≤c))) Y (nt (rt (vb (b':=(decide (a≤c))) Y ?_))))))
  exact ZZ (by omega)
 refine Qa9 3 3 true 10 (dz fhg10_1) Y Y Y (fO (OF.pickF (VEv.tmpB Y (dz fhg10_1)) (VEv.bool false)) (aO (tB false) Y (nt (rt (vb (b':=false) Y ?_)))))
 (symm;rw [decide_eq_false_iff_not];omega)
theorem ZI (n:Nat) (a:Int) (b:Int) (c:Int):Pure (Qt Try.prog (n+1)) 47 [(tI a),(tI b),(tI c)] (tB (decide (b≤a∧a≤c))):=by
 refine Pure.intro (rs:= [ResultVar.tmp 6]) Try.func47 Y Y Y (E0:= [(0,(tI a)),(1,(tI b)),(2,(tI c))]) Y ?_
 obtain ⟨hlim,hmx,hmax⟩:=Zi
 refine sr (fO (OF.assign (VEv.bool false)) (nt (sr (mO (tI b) Y (mO (tI a) Y (fO (xle (tv (tI b) Y) (tv (tI a) Y)) (mO (tB (decide (b≤a))) Y ?_)))))))
 refine gw (b≤a) (fun fhg10_1=> ?_) fun fhg10_1=> ?_
 ·refine gF (dy fhg10_1) Y Y (OF.move (tv (tI a) Y)) ?_
  refine gF (dy fhg10_1) Y Y (OF.move (tv (tI c) Y)) (gF (dy fhg10_1) Y Y (xle (tv (tI a) Y) (tv (tI c) Y)) (fO (OF.pickT (VEv.tmpB Y (dy fhg10_1)) (tv (tB (decide (a≤c))) Y)) (aO (tB (decide (a≤c))) Y (nt (rt (vb (b':=(decide (a≤c))) Y ?_))))))
  exact ZZ (by omega)
 refine Qa9 3 3 true 10 (dz fhg10_1) Y Y Y (fO (OF.pickF (VEv.tmpB Y (dz fhg10_1)) (VEv.bool false)) (aO (tB false) Y (nt (rt (vb (b':=false) Y ?_)))))
 (symm;rw [decide_eq_false_iff_not];omega)
theorem JU (n:Nat) (a:Int):Pure (Qt Try.prog (n+1)) 57 [(T.int .u8 a)] (tB (decide (97≤a∧a≤122))):=by
 refine Pure.intro (rs:= [ResultVar.tmp 2]) Try.func57 Y Y Y (E0:= [(0,(T.int .u8 a))]) Y ?_
 obtain ⟨hlim,hmx,hmax⟩:=Zi
 refine sr (fO (OF.assign (VEv.bool false)) (nt (sr (mO (T.int .u8 a) Y (fO (xge (tv (T.int .u8 a) Y) (VEv.int .u8 97)) (mO (tB (decide (97≤a))) Y ?_))))))
 refine gw (97≤a) (fun fhg5_1=> ?_) fun fhg5_1=> ?_
 ·refine gF (dy fhg5_1) Y Y (OF.move (tv (T.int .u8 a) Y)) ?_
  refine gF (dy fhg5_1) Y Y (xle (tv (T.int .u8 a) Y) (VEv.int .u8 122)) (fO (OF.pickT (VEv.tmpB Y (dy fhg5_1)) (tv (tB (decide (a≤122))) Y)) (aO (tB (decide (a≤122))) Y (nt (rt (vb (b':=(decide (a≤122))) Y ?_)))))
  exact ZZ (by omega)
 refine Qa9 2 2 true 5 (dz fhg5_1) Y Y Y (fO (OF.pickF (VEv.tmpB Y (dz fhg5_1)) (VEv.bool false)) (aO (tB false) Y (nt (rt (vb (b':=false) Y ?_)))))
 (symm;rw [decide_eq_false_iff_not];omega)
theorem QaC (n:Nat) (a:ByteArray) (ha:a.size≤maxLen):Pure (Qt Try.prog (n+2)) 52 [(tS a)] (tB (decide (Q7 a))):=by
 refine Pure.intro (rs:= [ResultVar.tmp 2]) Try.func52 Y Y Y (E0:= [(0,(tS a))]) Y ?_
 obtain ⟨hlim,hmx,hmax⟩:=Zi
 refine sr (fO (OF.assign (VEv.bool false)) (nt (sq (sr (mO (tS a) Y (lO (B.lenS (tv (tS a) Y) U9) (cO (cS (vc (tv (tN a.size) Y) (vc (VEv.int .i64 1) (vc (VEv.int .i64 8) vn))) (JF Y) (JP (n+0) ((a.size:Nat):Int) 1 8) Y Y) (fO (Yl (tv (tB (decide (1≤((a.size:Nat):Int)∧((a.size:Nat):Int)≤8))) Y)) (nt ?_)))))))))
 refine cn (1≤((a.size:Nat):Int)∧((a.size:Nat):Int)≤8) Y (fun fhc0=> ?_) fun fhc0=> ?_
 ·refine sr ?_
  refine fO (OF.assign (VEv.bool false)) (nt (rt (tr (vb (b':=false) Y ?_))))
  symm;rw [decide_eq_false_iff_not];rintro ⟨h1,_⟩;omega
 refine sk (tn (sq (sr (fO (OF.assign (VEv.int .i64 0)) (nt (VRun.block ?_))))))
 refine VRun.loop (A:=Nat) (fun s_=> [(0,(tS a)),(3,(tN s_))]) (fun s_=>Yy []) 0 (fun s_=>s_≤a.size∧∀j,j<s_→97≤Je a j∧Je a j≤122) (fun s_=>a.size - s_) (0:Nat) ?_ (Wk.mk (fun k=>k) ?_ ?_ ?_) ?_
 ·exact ⟨Nat.zero_le _,fun j hj=>by omega⟩
 ·exact (b2 (b2 bn))
 ·exact bn
 ·exact nd Y
 rintro i (hI':i≤a.size∧∀j,j<i→97≤Je a j∧Je a j≤122)
 show VRun _ _ _ [(0,(tS a)),(3,(tN i))] (Yy []) 0 _
 refine sq (sr (mO (tN i) Y (mO (tS a) Y (lO (B.lenS (tv (tS a) Y) U9) (fO (Yw (tv (tN i) Y) (tv (tN a.size) Y)) (nt ?_))))))
 refine cd (i<a.size) Y (fun fhc1=> ?_) fun fhc1=> ?_
 ·refine sk ?_
  refine tn (sq (VRun.block (sr (mO (tS a) Y (mO (tN i) Y ?_)))))
  have hb1:i<a.size:=(by omega)
  refine fO (xix (tv (tS a) Y) (tv (tN i) Y) hb1 U9) (fO (xls (tv (T.int .u8 (Je a i)) Y) (VEv.int .u8 97)) (mO (tB (decide (Je a i<97))) Y ?_))
  refine gw (Je a i<97) (fun fhg18_2=> ?_) fun fhg18_2=> ?_
  ·refine Qa9 4 4 false 18 (dy fhg18_2) Y Y Y ?_
   refine fO (OF.pickT (VEv.tmpB Y (dy fhg18_2)) (VEv.bool true)) (nt (ct Y (sr (fO (OF.assign (VEv.bool false)) (nt (rt (vinB.r (tr (tr (vinB.r (tr ?_)))))))))))
   refine vb (b':=false) Y ?_
   symm;rw [decide_eq_false_iff_not];rintro ⟨_,h2⟩;have:=h2 i fhc1;omega
  refine gF (dz fhg18_2) Y Y (OF.move (tv (tS a) Y)) (gF (dz fhg18_2) Y Y (OF.move (tv (tN i) Y)) ?_)
  have hb3:i<a.size:=(by omega)
  refine gF (dz fhg18_2) Y Y (xix (tv (tS a) Y) (tv (tN i) Y) hb3 U9) (gF (dz fhg18_2) Y Y (xgt (tv (T.int .u8 (Je a i)) Y) (VEv.int .u8 122)) (fO (OF.pickF (VEv.tmpB Y (dz fhg18_2)) (tv (tB (decide (122<Je a i))) Y)) (nt ?_)))
  refine cd (122<Je a i) Y (fun fhc2=> ?_) fun fhc2=> ?_
  ·refine sr ?_
   refine fO (OF.assign (VEv.bool false)) (nt (rt (vinB.r (tr (tr (vinB.r (tr (vb (b':=false) Y ?_))))))))
   symm;rw [decide_eq_false_iff_not];rintro ⟨_,h2⟩;have:=h2 i fhc1;omega
  refine sk (vinB.n (tn (VRun.region (mO (tN i) Y (fO (Zu (tv (tN i) Y) (VEv.int .i64 1) (by omega)) (aO (tN (i+1)) Y (VRunO.nil (tn ?_))))))))
  refine ⟨(i+1:Nat),?_,?_,Wk.mk (fun k=>k) ?_ ?_ ?_⟩
  ·exact YS (ok:=fun j=>97≤Je a j∧Je a j≤122) hI' fhc1 (by omega)
  ·omega
  ·exact (b2 (b2 bn))
  ·exact bn
  ·exact nd Y
 refine VRun.exit (vthn.e (vthn.e (vinB.e (tn (sr (fO (OF.assign (VEv.bool true)) (nt (rt (vb (b':=true) Y ?_)))))))))
 symm;rw [decide_eq_true_eq];exact ⟨by omega,Zn hI' fhc1⟩
theorem YZ (n:Nat) (a:ByteArray) (ha:a.size≤maxLen):Pure (Qt Try.prog (n+2)) 56 [(tS a)] (tB (decide (Q7 a))):=by
 refine Pure.intro (rs:= [ResultVar.tmp 2]) Try.func56 Y Y Y (E0:= [(0,(tS a))]) Y ?_
 obtain ⟨hlim,hmx,hmax⟩:=Zi
 refine sr (fO (OF.assign (VEv.bool false)) (nt (sq (sr (mO (tS a) Y (lO (B.lenS (tv (tS a) Y) U9) (cO (cS (vc (tv (tN a.size) Y) (vc (VEv.int .i64 1) (vc (VEv.int .i64 8) vn))) (JF Y) (ZI (n+0) ((a.size:Nat):Int) 1 8) Y Y) (fO (Yl (tv (tB (decide (1≤((a.size:Nat):Int)∧((a.size:Nat):Int)≤8))) Y)) (nt ?_)))))))))
 refine cn (1≤((a.size:Nat):Int)∧((a.size:Nat):Int)≤8) Y (fun fhc0=> ?_) fun fhc0=> ?_
 ·refine sr ?_
  refine fO (OF.assign (VEv.bool false)) (nt (rt (tr (vb (b':=false) Y ?_))))
  symm;rw [decide_eq_false_iff_not];rintro ⟨h1,_⟩;omega
 refine sk (tn (sq (sr (mO (tS a) Y (lO (B.lenS (tv (tS a) Y) U9) (fO (OF.move (VEv.int .i64 0)) (nt (VRun.block ?_))))))))
 refine VRun.loop (A:=Nat) (fun s_=> [(0,(tS a)),(9,(tN a.size)),(10,(tN s_))]) (fun s_=>Yy []) 0 (fun s_=>s_≤a.size∧∀j,j<s_→97≤Je a j∧Je a j≤122) (fun s_=>a.size - s_) (0:Nat) ?_ (Wk.mk (fun k=>k) ?_ ?_ ?_) ?_
 ·exact ⟨Nat.zero_le _,fun j hj=>by omega⟩
 ·exact (b2 (b2 (b2 bn)))
 ·exact bn
 ·exact nd Y
 rintro i (hI':i≤a.size∧∀j,j<i→97≤Je a j∧Je a j≤122)
 show VRun _ _ _ [(0,(tS a)),(9,(tN a.size)),(10,(tN i))] (Yy []) 0 _
 refine sr (fO (Yw (tv (tN i) Y) (tv (tN a.size) Y)) (nt (sq ?_)))
 refine cd (i<a.size) Y (fun fhc1=> ?_) fun fhc1=> ?_
 ·refine sk ?_
  refine tn (sq (VRun.block (sr (mO (tN i) Y (aO (tN i) Y (nt (sr (mO (tS a) Y (mO (tN i) Y ?_)))))))))
  have hb1:i<a.size:=(by omega)
  refine fO (xix (tv (tS a) Y) (tv (tN i) Y) hb1 U9) (cO (cS (vc (tv (T.int .u8 (Je a i)) Y) vn) (JF Y) (JU (n+0) (Je a i)) Y Y) (fO (Yl (tv (tB (decide (97≤(Je a i)∧(Je a i)≤122))) Y)) (nt ?_)))
  refine cn (97≤(Je a i)∧(Je a i)≤122) Y (fun fhc2=> ?_) fun fhc2=> ?_
  ·refine sr ?_
   refine fO (OF.assign (VEv.bool false)) (nt (rt (vinB.r (tr (tr (vinB.r (tr (vb (b':=false) Y ?_))))))))
   symm;rw [decide_eq_false_iff_not];rintro ⟨_,h2⟩;have:=h2 i fhc1;omega
  refine sk (vinB.n (tn (VRun.region (fO (Zu (tv (tN i) Y) (VEv.int .i64 1) (by omega)) (mO (tN (i+1)) Y (VRunO.nil (tn ?_)))))))
  refine ⟨(i+1:Nat),?_,?_,Wk.mk (fun k=>k) ?_ ?_ ?_⟩
  ·exact YS (ok:=fun j=>97≤Je a j∧Je a j≤122) hI' fhc1 (by omega)
  ·omega
  ·exact (b2 (b2 (b2 bn)))
  ·exact bn
  ·exact nd Y
 refine VRun.exit (vthn.e (vthn.e (vinB.e (tn (sr (fO (OF.assign (VEv.bool true)) (nt (rt (vb (b':=true) Y ?_)))))))))
 symm;rw [decide_eq_true_eq];exact ⟨by omega,Zn hI' fhc1⟩
theorem Js (n:Nat) (a:ByteArray) (b:ByteArray):Pure (Qt Try.prog (n+1)) 51 [(tS a),(tS b)] (tB (QU a b)):=by
 refine Pure.intro (rs:= [ResultVar.tmp 4]) Try.func51 Y Y Y (E0:= [(0,(tS a)),(1,(tS b))]) Y ?_
 obtain ⟨hlim,hmx,hmax⟩:=Zi
 refine sr (fO (OF.assign (VEv.bool false)) (nt (sq (sr (mO (tS a) Y (lO (B.lenS (tv (tS a) Y) U9) (mO (tS b) Y (lO (B.lenS (tv (tS b) Y) U9) (fO (QcW (tv (tN a.size) Y) (tv (tN b.size) Y)) (nt ?_))))))))))
 refine cn (a.size=b.size) Y (fun fhc0=> ?_) fun fhc0=> ?_
 ·refine sr ?_
  refine mO (tS a) Y (lO (B.lenS (tv (tS a) Y) U9) (mO (tS b) Y (lO (B.lenS (tv (tS b) Y) U9) (fO (Yw (tv (tN a.size) Y) (tv (tN b.size) Y)) (aO (tB (decide (a.size<b.size))) Y (nt (rt (tr (vb (b':=(decide (a.size<b.size))) Y ?_)))))))))
  simp [QU,fhc0]
 refine sk (tn (sr (mO (tS a) Y (mO (tS b) Y (fO (B.slss (c:=(Op.bytesLess a.toList b.toList)) (tv (tS a) Y) (tv (tS b) Y) Y) (aO (tB (Op.bytesLess a.toList b.toList)) Y (nt (rt (vb (b':=(Op.bytesLess a.toList b.toList)) Y ?_)))))))))
 simp [QU,fhc0]
theorem Jg (n:Nat) (a:ByteArray) (b:ByteArray):Pure (Qt Try.prog (n+1)) 53 [(tS a),(tS b)] (tB (QU a b)):=by
 refine Pure.intro (rs:= [ResultVar.tmp 4]) Try.func53 Y Y Y (E0:= [(0,(tS a)),(1,(tS b))]) Y ?_
 obtain ⟨hlim,hmx,hmax⟩:=Zi
 refine sr (fO (OF.assign (VEv.bool false)) (nt (sq (sr (mO (tS a) Y (lO (B.lenS (tv (tS a) Y) U9) (mO (tS b) Y (lO (B.lenS (tv (tS b) Y) U9) (fO (QcW (tv (tN a.size) Y) (tv (tN b.size) Y)) (nt ?_))))))))))
 refine cn (a.size=b.size) Y (fun fhc0=> ?_) fun fhc0=> ?_
 ·refine sr ?_
  refine mO (tS a) Y (lO (B.lenS (tv (tS a) Y) U9) (mO (tS b) Y (lO (B.lenS (tv (tS b) Y) U9) (fO (Yw (tv (tN a.size) Y) (tv (tN b.size) Y)) (aO (tB (decide (a.size<b.size))) Y (nt (rt (tr (vb (b':=(decide (a.size<b.size))) Y ?_)))))))))
  simp [QU,fhc0]
 refine sk (tn (sr (mO (tS a) Y (mO (tS b) Y (fO (B.slss (c:=(Op.bytesLess a.toList b.toList)) (tv (tS a) Y) (tv (tS b) Y) Y) (aO (tB (Op.bytesLess a.toList b.toList)) Y (nt (rt (vb (b':=(Op.bytesLess a.toList b.toList)) Y ?_)))))))))
 simp [QU,fhc0]
noncomputable section
def QG (a b:D.Used):Bool:=decide (a.Issue<b.Issue∨(a.Issue=b.Issue∧QU a.Word b.Word=true))
def QbK (l:List D.Used) (j:Nat):Prop:=∃x,l[j]? =some x∧Q7 x.Word∧(1≤x.Issue∧x.Issue≤999)∧(0<j→∃y,l[j - 1]? =some y∧QG y x=true)
def Qc (l:List D.Used):Prop:=l.length≤60∧∀j,j<l.length→QbK l j
instance (l:List D.Used):Decidable (Qc l):=Classical.propDecidable _
end
theorem Yb (n:Nat) (a:D.Used) (b:D.Used):Pure (Qt Try.prog (n+2)) 37 [(T.agg (Qa false a)),(T.agg (Qa false b))] (tB (QG a b)):=by
 refine Pure.intro (rs:= [ResultVar.tmp 4]) Try.func37 Y Y Y (E0:= [(0,(T.agg (Qa false a))),(1,(T.agg (Qa false b)))]) Y ?_
 obtain ⟨hlim,hmx,hmax⟩:=Zi
 refine sr (kO (B.box (ts:=(Qa false a)) (tv (T.agg (Qa false a)) Y) nofun Y) (kO (B.box (ts:=(Qa false b)) (tv (T.agg (Qa false b)) Y) nofun Y) (fO (OF.assign (VEv.bool false)) (nt (sr (lf (tI a.Issue) Y Q4 Y Y st3 (lf (tI b.Issue) Y Q4 Y Y st3 (fO (xls (tv (tI a.Issue) Y) (tv (tI b.Issue) Y)) (mO (tB (decide (a.Issue<b.Issue))) Y ?_)))))))))
 refine gw (a.Issue<b.Issue) (fun fhg10_1=> ?_) fun fhg10_1=> ?_
 ·refine Qa9 6 5 false 10 (dy fhg10_1) Y Y Y ?_
  refine Qff 5 11 true 16 Y Y Y (oO Y Y (dy fhg10_1) (fO (OF.pickT (VEv.tmpB Y (dy fhg10_1)) (VEv.bool true)) (aO (tB true) Y (nt (rt (vb (b':=true) Y ?_))))))
  simp only [QG];first | (symm;rw [decide_eq_true_eq];omega) | (symm;rw [decide_eq_false_iff_not];omega) | (by_cases hb:QU a.Word b.Word=true<;>simp_all<;>omega)
 refine glf (tI a.Issue) (dz fhg10_1) Y Y Y Y Q4 Y Y st3 (glf (tI b.Issue) (dz fhg10_1) Y Y Y Y Q4 Y Y st3 (gF (dz fhg10_1) Y Y (xeq (tv (tI a.Issue) Y) (tv (tI b.Issue) Y)) (gF (dz fhg10_1) Y Y (OF.move (tv (tB (decide (a.Issue=b.Issue))) Y)) ?_)))
 refine gw (a.Issue=b.Issue) (fun fhg16_2=> ?_) fun fhg16_2=> ?_
 ·refine glf (tS a.Word) (dy fhg16_2) Y Y Y Y Zw Y Y st9 ?_
  refine glf (tS b.Word) (dy fhg16_2) Y Y Y Y Zw Y Y st9 (VRunO.chain (VWant.on Y Y (dy fhg16_2)) (cS (vc (tv (tS a.Word) Y) (vc (tv (tS b.Word) Y) vn)) (JF Y) (Js (n+0) a.Word b.Word) Y Y) (gF (dz fhg10_1) Y Y (OF.pickT (VEv.tmpB Y (dy fhg16_2)) (tv (tB (QU a.Word b.Word)) Y)) (fO (OF.pickF (VEv.tmpB Y (dz fhg10_1)) (tv (tB (QU a.Word b.Word)) Y)) (aO (tB (QU a.Word b.Word)) Y (nt (rt (vb (b':=(QU a.Word b.Word)) Y ?_)))))))
  simp only [QG];first | (symm;rw [decide_eq_true_eq];omega) | (symm;rw [decide_eq_false_iff_not];omega) | (by_cases hb:QU a.Word b.Word=true<;>simp_all<;>omega)
 refine Qa9 5 11 true 16 (dz fhg16_2) Y Y Y (gF (dz fhg10_1) Y Y (OF.pickF (VEv.tmpB Y (dz fhg16_2)) (VEv.bool false)) (fO (OF.pickF (VEv.tmpB Y (dz fhg10_1)) (tv (tB false) Y)) (aO (tB false) Y (nt (rt (vb (b':=false) Y ?_))))))
 simp only [QG];first | (symm;rw [decide_eq_true_eq];omega) | (symm;rw [decide_eq_false_iff_not];omega) | (by_cases hb:QU a.Word b.Word=true<;>simp_all<;>omega)
theorem Z9 (n:Nat) (a:D.Used) (b:D.Used):Pure (Qt Try.prog (n+2)) 41 [(T.agg (Qa false a)),(T.agg (Qa false b))] (tB (QG a b)):=by
 refine Pure.intro (rs:= [ResultVar.tmp 4]) Try.func41 Y Y Y (E0:= [(0,(T.agg (Qa false a))),(1,(T.agg (Qa false b)))]) Y ?_
 obtain ⟨hlim,hmx,hmax⟩:=Zi
 refine sr (kO (B.box (ts:=(Qa false a)) (tv (T.agg (Qa false a)) Y) nofun Y) (kO (B.box (ts:=(Qa false b)) (tv (T.agg (Qa false b)) Y) nofun Y) (fO (OF.assign (VEv.bool false)) (nt (sq (sr (lf (tI a.Issue) Y Q4 Y Y st3 (lf (tI b.Issue) Y Q4 Y Y st3 (fO (xne (tv (tI a.Issue) Y) (tv (tI b.Issue) Y)) (nt ?_))))))))))
 refine cn (a.Issue=b.Issue) Y (fun fhc0=> ?_) fun fhc0=> ?_
 ·refine sr ?_
  refine lf (tI a.Issue) Y Q4 Y Y st3 (lf (tI b.Issue) Y Q4 Y Y st3 (fO (xls (tv (tI a.Issue) Y) (tv (tI b.Issue) Y)) (aO (tB (decide (a.Issue<b.Issue))) Y (nt (rt (tr (vb (b':=(decide (a.Issue<b.Issue))) Y ?_)))))))
  simp only [QG];first | (exact ZZ (by omega)) | (by_cases hb:QU a.Word b.Word=true<;>simp_all<;>omega)
 refine sk (tn (sr (lf (tS a.Word) Y Zw Y Y st9 (lf (tS b.Word) Y Zw Y Y st9 (cO (cS (vc (tv (tS a.Word) Y) (vc (tv (tS b.Word) Y) vn)) (JF Y) (Jg (n+0) a.Word b.Word) Y Y) (aO (tB (QU a.Word b.Word)) Y (nt (rt (vb (b':=(QU a.Word b.Word)) Y ?_)))))))))
 simp only [QG];first | (exact ZZ (by omega)) | (by_cases hb:QU a.Word b.Word=true<;>simp_all<;>omega)
theorem Qat (n:Nat) (a:List D.Used) (hz:zL Qn a≤2*mx):Pure (Qt Try.prog (n+3)) 38 [(rd 2 Qa a)] (tB (decide (Qc a))):=by
 refine Pure.intro (rs:= [ResultVar.tmp 2]) Try.func38 Y Y Y (E0:= [(0,(rd 2 Qa a))]) Y ?_
 obtain ⟨hlim,hmx,hmax⟩:=Zi
 have ha:=ZL (z:=Qn) a
 have hw:∀x∈a,x.Word.size≤maxLen:=fun x hx=>by have h1:=QdM (z:=Qn) hx;simp only [Qn] at h1;omega
 refine sr (fO (OF.assign (VEv.bool false)) (nt (sq (sr (fO (OF.assign (VEv.int .i64 0)) (nt (VRun.block ?_)))))))
 refine VRun.loop (A:=Nat) (fun s_=> [(0,(rd 2 Qa a)),(3,(tN s_))]) (fun s_=>Yy []) 0 (fun s_=>s_≤a.length∧∀j,j<s_→QbK a j) (fun s_=>a.length - s_) (0:Nat) ?_ (Wk.mk (fun k=>k) ?_ ?_ ?_) ?_
 ·exact ⟨Nat.zero_le _,fun j hj=>by omega⟩
 ·exact (b2 (b2 bn))
 ·exact bn
 ·exact nd Y
 rintro i (hI':i≤a.length∧∀j,j<i→QbK a j)
 show VRun _ _ _ [(0,(rd 2 Qa a)),(3,(tN i))] (Yy []) 0 _
 have hI0:=hI'
 refine sq (sr (mO (tN i) Y (mO (rd 2 Qa a) Y (lO (B.lenR (m:=a.length) (tv (rd 2 Qa a) Y) Zg (List.length_map ..)) (fO (Yw (tv (tN i) Y) (tv (tN a.length) Y)) (nt ?_))))))
 refine cd (i<a.length) Y (fun fhc0=> ?_) fun fhc0=> ?_
 ·refine sk ?_
  refine tn (sq (VRun.block (sq (VRun.draw (B:= [[],[],[1,0],[0,1,2],[2,1,0,3],[3,0,1,2,4],[4,2,1,0,3,5],[5,3,0,1,2,4,6],[6,4,2,1,0,3,5,7],[6,4,2,1,0,3,5,7],[9,7,5,3,0,1,2,4,6,8],[8,6,4,2,1,0,3,5,7,9,10],[10,9,7,5,3,0,1,2,4,6,8,11],[11,8,6,4,2,1,0,3,5,7,9,10,12],[12,10,9,7,5,3,0,1,2,4,6,8,11,13],[13,11,8,9,10,12,14,6,4,2,1,0,3,5,7],[7,5,3,0,1,2,4,6,14,12,10,9,8,11,13,15],[15,13,11,8,9,10,12,14,6,4,2,1,0,3,5,7,16],[16,7,5,3,0,1,2,4,6,14,12,10,9,8,11,13,15,17],[17,15,13,11,8,9,10,12,14,6,4,2,1,0,3,5,7,16,18],[18,16,7,5,3,0,1,2,4,6,14,12,10,9,8,11,13,15,17,19],[18,16,7,5,3,0,1,2,4,6,14,12,10,9,8,11,13,15,17,19],[19,17,15,13,11,8,9,10,12,14,6,4,2,1,0,3,5,7,16,18,21],[21,22,19,17,15,13,11,8,9,10,12,14,6,4,2,1,0,3,5,7,16,18,20],[20,18,16,7,5,3,0,1,2,4,6,14,12,10,9,8,11,13,15,17,19,22,21,23],[18,16,7,5,3,0,1,2,4,6,14,12,10,9,8,11,13,15,17,19],[18,16,7,5,3,0,1,2,4,6,14,12,10,9,8,11,13,15,17,19],[26,19,17,15,13,11,8,9,10,12,14,6,4,2,1,0,3,5,7,16,18,25],[25,18,16,7,5,3,0,1,2,4,6,14,12,10,9,8,11,13,15,17,19,26,27],[27,26,25,28,23,21,22,19,17,15,13,11,8,9,10,12,14,6,4,2,1,0,3,5,7,16,18,20,24],[24,20,18,16,7,5,3,0,1,2,4,6,14,12,10,9,8,11,13,15,17,19,22,21,23,28,25,26,27,29],[29,27,26,25,28,23,21,22,20,24,30,18,16,7,5,3,0,1,2,4,6,14,12,10,9,8,11,13,15,17,19],[19,17,18,30,24,20,22,21,23,28,25,26,27,29,31,15,13,11,8,9,10,12,14,6,4,2,1,0,3,5,7,16]]) (by kernel_rfl) (by kernel_rfl) (mD (rd 2 Qa a) Y Y (mD (tN i) Y Y ?_))))))
  obtain ⟨x1,hx1⟩:∃x,a[i]? =some x:=⟨_,List.getElem?_eq_getElem (by first | exact hw _ (List.mem_of_getElem? hx1) | omega)⟩
  refine fD (OF.indexAddrR (row:=(Qa false x1)) (i:=i) (tv (rd 2 Qa a) Y) (tv (tN i) Y) Y (QE _ hx1) Zg Qu Zz) Y Y (fD (B.fieldAddrR (us:=(Qa false x1)) (tv (T.rp (Qa false x1)) Y) (lb Y) Zw Y) Y Y (lD (OL.loadR1 (t:=(tS x1.Word)) (tv (T.rp (Qa false x1)) Y) Y st9) Y Y (VRunD.quiet (bi:= [3,0,1,2,4]) Y VWant.always Y Y Y bn (cS (vc (tv (tS x1.Word) Y) vn) (JF Y) (QaC (n+0) x1.Word (by first | exact hw _ (List.mem_of_getElem? hx1) | assumption | omega)) Y Y) (fD (Yl (tv (tB (decide (Q7 x1.Word))) Y)) Y Y (mD (tB (!(decide (Q7 x1.Word)))) Y Y ?_)))))
  refine gn (Q7 x1.Word) (fun fhg17_1=> ?_) fun fhg17_1=> ?_
  ·refine oD Y Y (ny fhg17_1) Y ?_
   refine oD Y Y (ny fhg17_1) Y (oD Y Y (ny fhg17_1) Y (oD Y Y (ny fhg17_1) Y (oD Y Y (ny fhg17_1) Y (oD Y Y (ny fhg17_1) Y (oD Y Y (ny fhg17_1) Y (fD (OF.pickT (VEv.tmpB Y (ny fhg17_1)) (VEv.bool true)) Y Y (mD (tB true) Y Y (VRunD.off Y (VWant.not (b:=true) Y Y Y) (VRunD.off Y (VWant.not (b:=true) Y Y Y) (VRunD.off Y (VWant.not (b:=true) Y Y Y) (uD Y Y Y ?_)))))))))))
   refine uD Y Y Y (uD Y Y Y (uD Y Y Y (uD Y Y Y (uD Y Y Y (uD Y Y Y (uD Y Y Y (uD Y Y Y (uD Y Y Y (uD Y Y Y (VRunD.off Y (VWant.not (b:=true) Y Y Y) (fD (OF.pickT (tv (tB true) Y) (VEv.bool true)) Y Y ?_)))))))))))
   refine VRunD.nil (tn (ct Y (sr (fO (OF.assign (VEv.bool false)) (nt (rt (vinB.r (tr (tr (vinB.r (tr ?_)))))))))))
   refine vb (b':=false) Y ?_
   first | (refine ZZ ⟨fun h=>⟨by omega,Zn hI' fhc0⟩,fun h=>by have:=h.1;omega⟩) | (symm;rw [decide_eq_false_iff_not];rintro ⟨_,h2⟩;obtain ⟨y,hy,h3,h4,h5⟩:=h2 i fhc0;obtain rfl:=QB hx1 hy;first | omega | contradiction | (obtain ⟨z,hz,h6⟩:=h5 (by omega);obtain rfl:=QB hx2 hz;simp_all;done) | (simp_all;done))
  refine VRunD.free Y (VWant.on Y Y (nz fhg17_1)) Y (OF.move (tv (rd 2 Qa a) Y)) (VRunD.free Y (VWant.on Y Y (nz fhg17_1)) Y (OF.move (tv (tN i) Y)) (VRunD.free Y (VWant.on Y Y (nz fhg17_1)) Y (OF.indexAddrR (row:=(Qa false x1)) (i:=i) (tv (rd 2 Qa a) Y) (tv (tN i) Y) Y (QE _ hx1) Zg Qu Zz) (VRunD.free Y (VWant.on Y Y (nz fhg17_1)) Y (B.fieldAddrR (us:= [(tI x1.Issue)]) (tv (T.rp (Qa false x1)) Y) (lb Y) Q4 Y) (VRunD.look Y (VWant.on Y Y (nz fhg17_1)) Y (OL.loadR1 (t:=(tI x1.Issue)) (tv (T.rp [(tI x1.Issue)]) Y) Y st3) (VRunD.quiet (bi:= [11,8,6,4,2,1,0,3,5,7,9,10,12]) Y (VWant.on Y Y (nz fhg17_1)) Y Y Y bn (cS (vc (tv (tI x1.Issue) Y) (vc (VEv.int .i64 1) (vc (VEv.int .i64 999) vn))) (JF Y) (JP (n+1) x1.Issue 1 999) Y Y) (VRunD.free Y (VWant.on Y Y (nz fhg17_1)) Y (Yl (tv (tB (decide (1≤x1.Issue∧x1.Issue≤999))) Y)) (fD (OF.pickF (VEv.tmpB Y (nz fhg17_1)) (tv (tB (!(decide (1≤x1.Issue∧x1.Issue≤999)))) Y)) Y Y (mD (tB (!(decide (1≤x1.Issue∧x1.Issue≤999)))) Y Y ?_))))))))
  refine gn (1≤x1.Issue∧x1.Issue≤999) (fun fhg26_2=> ?_) fun fhg26_2=> ?_
  ·refine oD Y Y (ny fhg26_2) Y ?_
   refine oD Y Y (ny fhg26_2) Y (oD Y Y (ny fhg26_2) Y (uD Y Y Y (uD Y Y Y (uD Y Y Y (uD Y Y Y (uD Y Y Y (uD Y Y Y (uD Y Y Y (uD Y Y Y (uD Y Y Y (uD Y Y Y ?_)))))))))))
   refine uD Y Y Y (oD Y Y (ny fhg26_2) Y (fD (OF.pickT (VEv.tmpB Y (ny fhg26_2)) (VEv.bool true)) Y Y (VRunD.nil (tn (ct Y (sr (fO (OF.assign (VEv.bool false)) (nt (rt (vinB.r (tr ?_)))))))))))
   refine tr (vinB.r (tr (vb (b':=false) Y ?_)))
   first | (refine ZZ ⟨fun h=>⟨by omega,Zn hI' fhc0⟩,fun h=>by have:=h.1;omega⟩) | (symm;rw [decide_eq_false_iff_not];rintro ⟨_,h2⟩;obtain ⟨y,hy,h3,h4,h5⟩:=h2 i fhc0;obtain rfl:=QB hx1 hy;first | omega | contradiction | (obtain ⟨z,hz,h6⟩:=h5 (by omega);obtain rfl:=QB hx2 hz;simp_all;done) | (simp_all;done))
  refine VRunD.free Y (VWant.on Y Y (nz fhg26_2)) Y (OF.move (tv (tN i) Y)) (VRunD.free Y (VWant.on Y Y (nz fhg26_2)) Y (B.gtr (c:=(decide (0<i))) (tv (tN i) Y) (VEv.int .i64 0) (by first | exact hw _ (List.mem_of_getElem? hx1) | (exact ZZ (by omega)))) (VRunD.free Y (VWant.on Y Y (nz fhg26_2)) Y (OF.move (tv (tB (decide (0<i))) Y)) ?_))
  refine gw (0<i) (fun fhg29_3=> ?_) fun fhg29_3=> ?_
  ·refine VRunD.free Y (VWant.on Y Y (dy fhg29_3)) Y (OF.move (tv (rd 2 Qa a) Y)) ?_
   refine VRunD.free Y (VWant.on Y Y (dy fhg29_3)) Y (OF.move (tv (tN i) Y)) (VRunD.free Y (VWant.on Y Y (dy fhg29_3)) Y (B.sub (n:=((i - 1:Nat):Int)) (tv (tN i) Y) (VEv.int .i64 1) (by first | exact hw _ (List.mem_of_getElem? hx1) | rfl | (rw [QT (by omega)];omega) | (rw [QT (by omega)];done))) ?_)
   obtain ⟨x2,hx2⟩:∃x,a[i - 1]? =some x:=⟨_,List.getElem?_eq_getElem (by first | exact hw _ (List.mem_of_getElem? hx1) | omega)⟩
   refine VRunD.free Y (VWant.on Y Y (dy fhg29_3)) Y (OF.indexAddrR (row:=(Qa false x2)) (i:=i - 1) (tv (rd 2 Qa a) Y) (tv (tN (i - 1)) Y) Y (QE _ hx2) Zg Qu Zz) (VRunD.look Y (VWant.on Y Y (dy fhg29_3)) Y (OL.loadRn (us:=(Qa false x2)) (tv (T.rp (Qa false x2)) Y) YG Qu (lb Y) Y) (VRunD.free Y (VWant.on Y Y (dy fhg29_3)) Y (OF.move (tv (rd 2 Qa a) Y)) (VRunD.free Y (VWant.on Y Y (dy fhg29_3)) Y (OF.move (tv (tN i) Y)) (VRunD.free Y (VWant.on Y Y (dy fhg29_3)) Y (OF.indexAddrR (row:=(Qa false x1)) (i:=i) (tv (rd 2 Qa a) Y) (tv (tN i) Y) Y (QE _ hx1) Zg Qu Zz) (VRunD.look Y (VWant.on Y Y (dy fhg29_3)) Y (OL.loadRn (us:=(Qa false x1)) (tv (T.rp (Qa false x1)) Y) YG Qu (lb Y) Y) (VRunD.quiet (bi:= [27,26,25,28,23,21,22,19,17,15,13,11,8,9,10,12,14,6,4,2,1,0,3,5,7,16,18,20,24]) Y (VWant.on Y Y (dy fhg29_3)) Y Y Y bn (cS (vc (tv (T.agg (Qa false x2)) Y) (vc (tv (T.agg (Qa false x1)) Y) vn)) (LendL.cons (lg okeUsed) (LendL.cons (lg okeUsed) ln)) (Yb (n+0) x2 x1) Y Y) (VRunD.free Y (VWant.on Y Y (dy fhg29_3)) Y (Yl (tv (tB (QG x2 x1)) Y)) (VRunD.free Y (VWant.on Y Y (nz fhg26_2)) Y (OF.pickT (VEv.tmpB Y (dy fhg29_3)) (tv (tB (!(QG x2 x1))) Y)) (fD (OF.pickF (VEv.tmpB Y (nz fhg26_2)) (tv (tB (!(QG x2 x1))) Y)) Y Y (VRunD.nil (tn ?_)))))))))))
   refine VRun.cond (tv (tB (!(QG x2 x1))) Y) (fun hc1=> ?_) (fun hc1=> ?_)
   ·have fhc1:(QG x2 x1)=false:=QeT hc1
    refine sr (fO (OF.assign (VEv.bool false)) (nt (rt (vinB.r (tr (tr (vinB.r (tr (vb (b':=false) Y ?_)))))))))
    first | (refine ZZ ⟨fun h=>⟨by omega,Zn hI' fhc0⟩,fun h=>by have:=h.1;omega⟩) | (symm;rw [decide_eq_false_iff_not];rintro ⟨_,h2⟩;obtain ⟨y,hy,h3,h4,h5⟩:=h2 i fhc0;obtain rfl:=QB hx1 hy;first | omega | contradiction | (obtain ⟨z,hz,h6⟩:=h5 (by omega);obtain rfl:=QB hx2 hz;simp_all;done) | (simp_all;done))
   have fhc1:(QG x2 x1)=true:=Qe1 hc1
   refine sk (vinB.n (tn (VRun.region (mO (tN i) Y (fO (Zu (tv (tN i) Y) (VEv.int .i64 1) (by first | exact hw _ (List.mem_of_getElem? hx1) | omega)) (aO (tN (i+1)) Y (VRunO.nil (tn ?_))))))))
   refine ⟨(i+1:Nat),?_,?_,Wk.mk (fun k=>k) ?_ ?_ ?_⟩
   ·refine YS hI0 fhc0 ⟨x1,hx1,by assumption,by omega,fun h0=> ?_⟩
    first | (exact absurd h0 (by omega)) | (exact ⟨x2,hx2,by simp_all⟩)
   ·first | omega | (simp only [];omega) | (show _<_;omega) | (simp;omega)
   ·exact (b2 (b2 bn))
   ·exact bn
   ·exact nd Y
  refine oD Y Y (dz fhg29_3) Y (oD Y Y (dz fhg29_3) Y (oD Y Y (dz fhg29_3) Y (oD Y Y (dz fhg29_3) Y (oD Y Y (dz fhg29_3) Y (oD Y Y (dz fhg29_3) Y (oD Y Y (dz fhg29_3) Y (oD Y Y (dz fhg29_3) Y (oD Y Y (dz fhg29_3) Y (oD Y Y (dz fhg29_3) Y (oD Y Y (dz fhg29_3) Y (VRunD.free Y (VWant.on Y Y (nz fhg26_2)) Y (OF.pickF (VEv.tmpB Y (dz fhg29_3)) (VEv.bool false)) ?_)))))))))))
  refine fD (OF.pickF (VEv.tmpB Y (nz fhg26_2)) (tv (tB false) Y)) Y Y (VRunD.nil (tn (cf Y (sk (vinB.n (tn (VRun.region (mO (tN i) Y (fO (Zu (tv (tN i) Y) (VEv.int .i64 1) (by first | exact hw _ (List.mem_of_getElem? hx1) | omega)) (aO (tN (i+1)) Y (VRunO.nil ?_)))))))))))
  refine tn ?_
  refine ⟨(i+1:Nat),?_,?_,Wk.mk (fun k=>k) ?_ ?_ ?_⟩
  ·refine YS hI0 fhc0 ⟨x1,hx1,by assumption,by omega,fun h0=> ?_⟩
   first | (exact absurd h0 (by omega)) | (exact ⟨x2,hx2,by simp_all⟩)
  ·first | omega | (simp only [];omega) | (show _<_;omega) | (simp;omega)
  ·exact (b2 (b2 bn))
  ·exact bn
  ·exact nd Y
 refine VRun.exit (vthn.e (vthn.e (vinB.e (tn (sr (mO (rd 2 Qa a) Y (lO (B.lenR (m:=a.length) (tv (rd 2 Qa a) Y) Zg (List.length_map ..)) (fO (B.leq (c:=(decide (a.length≤60))) (tv (tN a.length) Y) (VEv.int .i64 60) (by first | exact hw _ (List.mem_of_getElem? hx1) | (exact ZZ (by omega)))) (aO (tB (decide (a.length≤60))) Y (nt (rt ?_)))))))))))
 refine vb (b':=(decide (a.length≤60))) Y ?_
 first | (refine ZZ ⟨fun h=>⟨by omega,Zn hI' fhc0⟩,fun h=>by have:=h.1;omega⟩) | (symm;rw [decide_eq_false_iff_not];rintro ⟨_,h2⟩;obtain ⟨y,hy,h3,h4,h5⟩:=h2 i fhc0;obtain rfl:=QB hx1 hy;first | omega | contradiction | (obtain ⟨z,hz,h6⟩:=h5 (by omega);obtain rfl:=QB hx2 hz;simp_all;done) | (simp_all;done))
theorem Qap (n:Nat) (a:List D.Used) (hz:zL Qn a≤2*mx):Pure (Qt Try.prog (n+3)) 43 [(rd 2 Qa a)] (tB (decide (Qc a))):=by
 refine Pure.intro (rs:= [ResultVar.tmp 2]) Try.func43 Y Y Y (E0:= [(0,(rd 2 Qa a))]) Y ?_
 obtain ⟨hlim,hmx,hmax⟩:=Zi
 have ha:=ZL (z:=Qn) a
 have hw:∀x∈a,x.Word.size≤maxLen:=fun x hx=>by have h1:=QdM (z:=Qn) hx;simp only [Qn] at h1;omega
 refine sr (fO (OF.assign (VEv.bool false)) (nt (sq (sr (mO (rd 2 Qa a) Y (lO (B.lenR (m:=a.length) (tv (rd 2 Qa a) Y) Zg (List.length_map ..)) (fO (B.gtr (c:=(decide (60<a.length))) (tv (tN a.length) Y) (VEv.int .i64 60) (by first | exact hw _ (List.mem_of_getElem? hx1) | (exact ZZ (by omega)))) (nt ?_))))))))
 refine cd (60<a.length) Y (fun fhc0=> ?_) fun fhc0=> ?_
 ·refine sr ?_
  refine fO (OF.assign (VEv.bool false)) (nt (rt (tr (vb (b':=false) Y ?_))))
  first | (symm;rw [decide_eq_false_iff_not];rintro ⟨h2,_⟩;omega) | (symm;rw [decide_eq_true_eq];exact ⟨by omega,Zn hI' fhc1⟩) | (symm;rw [decide_eq_false_iff_not];rintro ⟨_,h2⟩;obtain ⟨y,hy,h3,h4,h5⟩:=h2 i fhc1;obtain rfl:=QB hx1 hy;first | omega | contradiction | (obtain ⟨z,hz,h6⟩:=h5 (by omega);obtain rfl:=QB hx2 hz;simp_all;done) | (simp_all;done))
 refine sk (tn (sq (sr (mO (rd 2 Qa a) Y (lO (B.lenR (m:=a.length) (tv (rd 2 Qa a) Y) Zg (List.length_map ..)) (fO (OF.move (VEv.int .i64 0)) (nt (VRun.block ?_))))))))
 refine VRun.loop (A:=Nat) (fun s_=> [(0,(rd 2 Qa a)),(8,(rd 2 Qa a)),(9,(tN a.length)),(10,(tN s_))]) (fun s_=>Yy []) 0 (fun s_=>s_≤a.length∧∀j,j<s_→QbK a j) (fun s_=>a.length - s_) (0:Nat) ?_ (Wk.mk (fun k=>k) ?_ ?_ ?_) ?_
 ·exact ⟨Nat.zero_le _,fun j hj=>by omega⟩
 ·exact (b2 (b2 (b2 (b2 bn))))
 ·exact bn
 ·exact nd Y
 rintro i (hI':i≤a.length∧∀j,j<i→QbK a j)
 show VRun _ _ _ [(0,(rd 2 Qa a)),(8,(rd 2 Qa a)),(9,(tN a.length)),(10,(tN i))] (Yy []) 0 _
 have hI0:=hI'
 refine sr (fO (Yw (tv (tN i) Y) (tv (tN a.length) Y)) (nt (sq ?_)))
 refine cd (i<a.length) Y (fun fhc1=> ?_) fun fhc1=> ?_
 ·refine sk ?_
  refine tn (sq (VRun.block (sr (mO (tN i) Y ?_))))
  obtain ⟨x1,hx1⟩:∃x,a[i]? =some x:=⟨_,List.getElem?_eq_getElem (by first | exact hw _ (List.mem_of_getElem? hx1) | omega)⟩
  refine fO (OF.indexAddrR (row:=(Qa false x1)) (i:=i) (tv (rd 2 Qa a) Y) (tv (tN i) Y) Y (QE _ hx1) Zg Qu Zz) (lO (OL.loadRn (us:=(Qa false x1)) (tv (T.rp (Qa false x1)) Y) YG Qu (lb Y) Y) (kO (B.alloc (t:=(T.agg [(tS ByteArray.empty),(tN 0)])) (ts:= [(tS ByteArray.empty),(tN 0)]) Zt QcX nofun (fun _=> .agg _ _ Y (QaG (RL.cons (.str _) (RL.cons (.int _ _) (RL.nil _))))) Y) (aO (tN i) Y (cO (B.storeW (us:=(Qa false x1)) (tv (T.op 0 0) Y) (tv (T.agg (Qa false x1)) Y) nofun Y Y Y Zz Qu (bc Y (bc Y bn))) (nt (sq (VRun.draw (B:= [[],[0],[0,1],[1,0,2],[1,0,2],[2,0,1,4],[4,5,2,0,1,3],[3,1,0,2,5,4,6],[1,0,2],[8,6,4,5,2,0,1,3,7],[7,3,1,0,2,5,4,6,8,9],[9,8,6,4,5,3,7,10,1,0,2],[2,0,1,10,7,3,5,4,6,8,9,11],[11,9,8,6,4,5,3,7,10,1,0,2,12],[12,2,0,1,10,7,3,5,4,6,8,9,11,13],[13,11,9,8,6,4,5,3,7,10,1,0,2,12,14],[14,12,2,0,1,10,7,3,5,4,6,8,9,11,13,15],[15,13,14,16,11,9,8,6,4,5,3,7,10,1,0,2,12],[12,2,0,1,10,7,3,5,4,6,8,9,11,16,14,13,15,17],[17,15,13,14,16,11,9,8,6,4,5,3,7,10,1,0,2,12,18],[18,12,2,0,1,10,7,3,5,4,6,8,9,11,16,14,13,15,17,19],[19,17,15,13,14,16,11,9,8,6,4,5,3,7,10,1,0,2,12,18,20],[20,18,12,2,0,1,10,7,3,5,4,6,8,9,11,16,14,13,15,17,19,21],[21,19,20,22,17,15,13,14,16,11,9,8,6,4,5,3,7,10,1,0,2,12,18]]) (by kernel_rfl) (by kernel_rfl) (mD (tN i) Y Y (fD (B.gtr (c:=(decide (0<i))) (tv (tN i) Y) (VEv.int .i64 0) (by first | exact hw _ (List.mem_of_getElem? hx1) | (exact ZZ (by omega)))) Y Y (mD (tB (decide (0<i))) Y Y ?_))))))))))
  refine gw (0<i) (fun fhg17_1=> ?_) fun fhg17_1=> ?_
  ·refine VRunD.free Y (VWant.on Y Y (dy fhg17_1)) Y (OF.move (tv (rd 2 Qa a) Y)) ?_
   refine VRunD.free Y (VWant.on Y Y (dy fhg17_1)) Y (OF.move (tv (tN i) Y)) (VRunD.free Y (VWant.on Y Y (dy fhg17_1)) Y (B.sub (n:=((i - 1:Nat):Int)) (tv (tN i) Y) (VEv.int .i64 1) (by first | exact hw _ (List.mem_of_getElem? hx1) | rfl | (rw [QT (by omega)];omega) | (rw [QT (by omega)];done))) ?_)
   obtain ⟨x2,hx2⟩:∃x,a[i - 1]? =some x:=⟨_,List.getElem?_eq_getElem (by first | exact hw _ (List.mem_of_getElem? hx1) | omega)⟩
   refine VRunD.free Y (VWant.on Y Y (dy fhg17_1)) Y (OF.indexAddrR (row:=(Qa false x2)) (i:=i - 1) (tv (rd 2 Qa a) Y) (tv (tN (i - 1)) Y) Y (QE _ hx2) Zg Qu Zz) (VRunD.look Y (VWant.on Y Y (dy fhg17_1)) Y (OL.loadRn (us:=(Qa false x2)) (tv (T.rp (Qa false x2)) Y) YG Qu (lb Y) Y) (VRunD.look Y (VWant.on Y Y (dy fhg17_1)) Y (OL.loadOn (us:=(Qa false x1)) (tv (T.op 0 0) Y) Y YG Qu (lb Y) Y) (VRunD.quiet (bi:= [8,6,4,5,2,0,1,3,7]) Y (VWant.on Y Y (dy fhg17_1)) Y Y Y bn (cS (vc (tv (T.agg (Qa false x2)) Y) (vc (tv (T.agg (Qa false x1)) Y) vn)) (LendL.cons (lg okeUsed) (LendL.cons (lg okeUsed) ln)) (Z9 (n+0) x2 x1) Y Y) (VRunD.free Y (VWant.on Y Y (dy fhg17_1)) Y (Yl (tv (tB (QG x2 x1)) Y)) (fD (OF.pickT (VEv.tmpB Y (dy fhg17_1)) (tv (tB (!(QG x2 x1))) Y)) Y Y (mD (tB (!(QG x2 x1))) Y Y ?_))))))
   refine Qdb (!(QG x2 x1)) (fun hg27_2=> ?_) (fun hg27_2=> ?_)
   ·have fhg27_2:(QG x2 x1)=false:=QeT hg27_2
    refine oD Y Y hg27_2 Y (oD Y Y hg27_2 Y (oD Y Y hg27_2 Y (oD Y Y hg27_2 Y (fD (OF.pickT (VEv.tmpB Y hg27_2) (VEv.bool true)) Y Y (mD (tB true) Y Y (VRunD.off Y (VWant.not (b:=true) Y Y Y) (VRunD.off Y (VWant.not (b:=true) Y Y Y) (VRunD.off Y (VWant.not (b:=true) Y Y Y) (VRunD.off Y (VWant.not (b:=true) Y Y Y) (fD (OF.pickT (tv (tB true) Y) (VEv.bool true)) Y Y (VRunD.nil ?_)))))))))))
    refine tn (ct Y (sr (fO (OF.assign (VEv.bool false)) (nt (rt (vinB.r (tr (tr (vinB.r (tr (vb (b':=false) Y ?_)))))))))))
    first | (symm;rw [decide_eq_false_iff_not];rintro ⟨h2,_⟩;omega) | (symm;rw [decide_eq_true_eq];exact ⟨by omega,Zn hI' fhc1⟩) | (symm;rw [decide_eq_false_iff_not];rintro ⟨_,h2⟩;obtain ⟨y,hy,h3,h4,h5⟩:=h2 i fhc1;obtain rfl:=QB hx1 hy;first | omega | contradiction | (obtain ⟨z,hz,h6⟩:=h5 (by omega);obtain rfl:=QB hx2 hz;simp_all;done) | (simp_all;done))
   have fhg27_2:(QG x2 x1)=true:=Qe1 hg27_2
   refine VRunD.free Y (VWant.on Y Y hg27_2) Y (OF.fieldAddrO (tv (T.op 0 0) Y) Zw) (VRunD.look Y (VWant.on Y Y hg27_2) Y (OL.loadO1 (t:=(tS x1.Word)) (tv (T.op 0 0) Y) Y Y st9) (VRunD.quiet (bi:= [13,11,9,8,6,4,5,3,7,10,1,0,2,12,14]) Y (VWant.on Y Y hg27_2) Y Y Y bn (cS (vc (tv (tS x1.Word) Y) vn) (JF Y) (YZ (n+0) x1.Word (by first | exact hw _ (List.mem_of_getElem? hx1) | assumption | omega)) Y Y) (VRunD.free Y (VWant.on Y Y hg27_2) Y (Yl (tv (tB (decide (Q7 x1.Word))) Y)) (fD (OF.pickF (VEv.tmpB Y hg27_2) (tv (tB (!(decide (Q7 x1.Word)))) Y)) Y Y (mD (tB (!(decide (Q7 x1.Word)))) Y Y ?_)))))
   refine gn (Q7 x1.Word) (fun fhg33_3=> ?_) fun fhg33_3=> ?_
   ·refine oD Y Y (ny fhg33_3) Y ?_
    refine oD Y Y (ny fhg33_3) Y (oD Y Y (ny fhg33_3) Y (oD Y Y (ny fhg33_3) Y (fD (OF.pickT (VEv.tmpB Y (ny fhg33_3)) (VEv.bool true)) Y Y (VRunD.nil (tn (ct Y (sr (fO (OF.assign (VEv.bool false)) (nt (rt (vinB.r ?_)))))))))))
    refine tr (tr (vinB.r (tr (vb (b':=false) Y ?_))))
    first | (symm;rw [decide_eq_false_iff_not];rintro ⟨h2,_⟩;omega) | (symm;rw [decide_eq_true_eq];exact ⟨by omega,Zn hI' fhc1⟩) | (symm;rw [decide_eq_false_iff_not];rintro ⟨_,h2⟩;obtain ⟨y,hy,h3,h4,h5⟩:=h2 i fhc1;obtain rfl:=QB hx1 hy;first | omega | contradiction | (obtain ⟨z,hz,h6⟩:=h5 (by omega);obtain rfl:=QB hx2 hz;simp_all;done) | (simp_all;done))
   refine VRunD.free Y (VWant.on Y Y (nz fhg33_3)) Y (OF.fieldAddrO (tv (T.op 0 0) Y) Q4) (VRunD.look Y (VWant.on Y Y (nz fhg33_3)) Y (OL.loadO1 (t:=(tI x1.Issue)) (tv (T.op 0 1) Y) Y Y st3) (VRunD.quiet (bi:= [19,17,15,13,14,16,11,9,8,6,4,5,3,7,10,1,0,2,12,18,20]) Y (VWant.on Y Y (nz fhg33_3)) Y Y Y bn (cS (vc (tv (tI x1.Issue) Y) (vc (VEv.int .i64 1) (vc (VEv.int .i64 999) vn))) (JF Y) (ZI (n+1) x1.Issue 1 999) Y Y) (VRunD.free Y (VWant.on Y Y (nz fhg33_3)) Y (Yl (tv (tB (decide (1≤x1.Issue∧x1.Issue≤999))) Y)) (fD (OF.pickF (VEv.tmpB Y (nz fhg33_3)) (tv (tB (!(decide (1≤x1.Issue∧x1.Issue≤999)))) Y)) Y Y (VRunD.nil (tn ?_))))))
   refine cn (1≤x1.Issue∧x1.Issue≤999) Y (fun fhc2=> ?_) fun fhc2=> ?_
   ·refine sr ?_
    refine fO (OF.assign (VEv.bool false)) (nt (rt (vinB.r (tr (tr (vinB.r (tr (vb (b':=false) Y ?_))))))))
    first | (symm;rw [decide_eq_false_iff_not];rintro ⟨h2,_⟩;omega) | (symm;rw [decide_eq_true_eq];exact ⟨by omega,Zn hI' fhc1⟩) | (symm;rw [decide_eq_false_iff_not];rintro ⟨_,h2⟩;obtain ⟨y,hy,h3,h4,h5⟩:=h2 i fhc1;obtain rfl:=QB hx1 hy;first | omega | contradiction | (obtain ⟨z,hz,h6⟩:=h5 (by omega);obtain rfl:=QB hx2 hz;simp_all;done) | (simp_all;done))
   refine sk (vinB.n (tn (VRun.region (fO (Zu (tv (tN i) Y) (VEv.int .i64 1) (by first | exact hw _ (List.mem_of_getElem? hx1) | omega)) (mO (tN (i+1)) Y (VRunO.nil (tn ?_)))))))
   refine ⟨(i+1:Nat),?_,?_,Wk.mk (fun k=>k) ?_ ?_ ?_⟩
   ·refine YS hI0 fhc1 ⟨x1,hx1,by assumption,by omega,fun h0=> ?_⟩
    first | (exact absurd h0 (by omega)) | (exact ⟨x2,hx2,by simp_all⟩)
   ·first | omega | (simp only [];omega) | (show _<_;omega) | (simp;omega)
   ·exact (b2 (b2 (b2 (b2 bn))))
   ·exact bn
   ·exact nd Y
  refine oD Y Y (dz fhg17_1) Y (oD Y Y (dz fhg17_1) Y (oD Y Y (dz fhg17_1) Y (oD Y Y (dz fhg17_1) Y (oD Y Y (dz fhg17_1) Y (oD Y Y (dz fhg17_1) Y (oD Y Y (dz fhg17_1) Y (oD Y Y (dz fhg17_1) Y (fD (OF.pickF (VEv.tmpB Y (dz fhg17_1)) (VEv.bool false)) Y Y (mD (tB false) Y Y (VRunD.free Y (VWant.on (b:=false) Y Y Y) Y (OF.fieldAddrO (tv (T.op 0 0) Y) Zw) (VRunD.look Y (VWant.on (b:=false) Y Y Y) Y (OL.loadO1 (t:=(tS x1.Word)) (tv (T.op 0 0) Y) Y Y st9) ?_)))))))))))
  refine VRunD.quiet (bi:= [13,11,9,8,6,4,5,3,7,10,1,0,2,12,14]) Y (VWant.on (b:=false) Y Y Y) Y Y Y bn (cS (vc (tv (tS x1.Word) Y) vn) (JF Y) (YZ (n+0) x1.Word (by first | exact hw _ (List.mem_of_getElem? hx1) | assumption | omega)) Y Y) (VRunD.free Y (VWant.on (b:=false) Y Y Y) Y (Yl (tv (tB (decide (Q7 x1.Word))) Y)) (fD (OF.pickF (tv (tB false) Y) (tv (tB (!(decide (Q7 x1.Word)))) Y)) Y Y (mD (tB (!(decide (Q7 x1.Word)))) Y Y ?_)))
  refine gn (Q7 x1.Word) (fun fhg33_4=> ?_) fun fhg33_4=> ?_
  ·refine oD Y Y (ny fhg33_4) Y ?_
   refine oD Y Y (ny fhg33_4) Y (oD Y Y (ny fhg33_4) Y (oD Y Y (ny fhg33_4) Y (fD (OF.pickT (VEv.tmpB Y (ny fhg33_4)) (VEv.bool true)) Y Y (VRunD.nil (tn (ct Y (sr (fO (OF.assign (VEv.bool false)) (nt (rt (vinB.r ?_)))))))))))
   refine tr (tr (vinB.r (tr (vb (b':=false) Y ?_))))
   first | (symm;rw [decide_eq_false_iff_not];rintro ⟨h2,_⟩;omega) | (symm;rw [decide_eq_true_eq];exact ⟨by omega,Zn hI' fhc1⟩) | (symm;rw [decide_eq_false_iff_not];rintro ⟨_,h2⟩;obtain ⟨y,hy,h3,h4,h5⟩:=h2 i fhc1;obtain rfl:=QB hx1 hy;first | omega | contradiction | (obtain ⟨z,hz,h6⟩:=h5 (by omega);obtain rfl:=QB hx2 hz;simp_all;done) | (simp_all;done))
  refine VRunD.free Y (VWant.on Y Y (nz fhg33_4)) Y (OF.fieldAddrO (tv (T.op 0 0) Y) Q4) (VRunD.look Y (VWant.on Y Y (nz fhg33_4)) Y (OL.loadO1 (t:=(tI x1.Issue)) (tv (T.op 0 1) Y) Y Y st3) (VRunD.quiet (bi:= [19,17,15,13,14,16,11,9,8,6,4,5,3,7,10,1,0,2,12,18,20]) Y (VWant.on Y Y (nz fhg33_4)) Y Y Y bn (cS (vc (tv (tI x1.Issue) Y) (vc (VEv.int .i64 1) (vc (VEv.int .i64 999) vn))) (JF Y) (ZI (n+1) x1.Issue 1 999) Y Y) (VRunD.free Y (VWant.on Y Y (nz fhg33_4)) Y (Yl (tv (tB (decide (1≤x1.Issue∧x1.Issue≤999))) Y)) (fD (OF.pickF (VEv.tmpB Y (nz fhg33_4)) (tv (tB (!(decide (1≤x1.Issue∧x1.Issue≤999)))) Y)) Y Y (VRunD.nil (tn ?_))))))
  refine cn (1≤x1.Issue∧x1.Issue≤999) Y (fun fhc2=> ?_) fun fhc2=> ?_
  ·refine sr ?_
   refine fO (OF.assign (VEv.bool false)) (nt (rt (vinB.r (tr (tr (vinB.r (tr (vb (b':=false) Y ?_))))))))
   first | (symm;rw [decide_eq_false_iff_not];rintro ⟨h2,_⟩;omega) | (symm;rw [decide_eq_true_eq];exact ⟨by omega,Zn hI' fhc1⟩) | (symm;rw [decide_eq_false_iff_not];rintro ⟨_,h2⟩;obtain ⟨y,hy,h3,h4,h5⟩:=h2 i fhc1;obtain rfl:=QB hx1 hy;first | omega | contradiction | (obtain ⟨z,hz,h6⟩:=h5 (by omega);obtain rfl:=QB hx2 hz;simp_all;done) | (simp_all;done))
  refine sk (vinB.n (tn (VRun.region (fO (Zu (tv (tN i) Y) (VEv.int .i64 1) (by first | exact hw _ (List.mem_of_getElem? hx1) | omega)) (mO (tN (i+1)) Y (VRunO.nil (tn ?_)))))))
  refine ⟨(i+1:Nat),?_,?_,Wk.mk (fun k=>k) ?_ ?_ ?_⟩
  ·refine YS hI0 fhc1 ⟨x1,hx1,by assumption,by omega,fun h0=> ?_⟩
   first | (exact absurd h0 (by omega)) | (exact ⟨x2,hx2,by simp_all⟩)
  ·first | omega | (simp only [];omega) | (show _<_;omega) | (simp;omega)
  ·exact (b2 (b2 (b2 (b2 bn))))
  ·exact bn
  ·exact nd Y
 refine VRun.exit (vthn.e (vthn.e (vinB.e (tn (sr (fO (OF.assign (VEv.bool true)) (nt (rt (vb (b':=true) Y ?_)))))))))
 first | (symm;rw [decide_eq_false_iff_not];rintro ⟨h2,_⟩;omega) | (symm;rw [decide_eq_true_eq];exact ⟨by omega,Zn hI' fhc1⟩) | (symm;rw [decide_eq_false_iff_not];rintro ⟨_,h2⟩;obtain ⟨y,hy,h3,h4,h5⟩:=h2 i fhc1;obtain rfl:=QB hx1 hy;first | omega | contradiction | (obtain ⟨z,hz,h6⟩:=h5 (by omega);obtain rfl:=QB hx2 hz;simp_all;done) | (simp_all;done))
noncomputable section
def Qac : Nat→Int→ByteArray→ByteArray
 | 0,_,acc=>acc
 | f+1,k,acc=>if 0<k then Qac f (k.tdiv 10) (Yr [IntKind.u8.wrap (48+k.tmod 10)]++acc) else acc
def Yp (k:Int):ByteArray:=if k≤0 then ⟨#[109,48]⟩ else ⟨#[109]⟩++Qac k.toNat k ⟨#[]⟩
theorem QcO {f:Nat} {k:Int} {acc:ByteArray} (hk:0<k) (hf:k.toNat≤f):0≤k.tdiv 10∧(k.tdiv 10).toNat≤f - 1∧Qac f k acc=Qac (f - 1) (k.tdiv 10) (Yr [IntKind.u8.wrap (48+k.tmod 10)]++acc):=by
 have h1:k.tdiv 10=k / 10:=Int.tdiv_eq_ediv_of_nonneg (by omega)
 cases f with
 | zero=>omega
 | succ f =>
  refine ⟨by omega,by omega,?_⟩
  simp only [Qac,if_pos hk]
  rfl
theorem Qdj {f:Nat} {k:Int} {acc:ByteArray} (hk:¬ 0<k):Qac f k acc=acc:=by
 cases f with
 | zero=>rfl
 | succ f=>simp only [Qac,if_neg hk]
theorem QdK (n:Int):(Yr [n]).size=1:=rfl
theorem Qep {k:Int} (h:0<k):0≤k.tmod 10∧k.tmod 10<10∧0≤k.tdiv 10∧k.tdiv 10≤k:=by
 rw [Int.tmod_eq_emod_of_nonneg (by omega),Int.tdiv_eq_ediv_of_nonneg (by omega)]
 omega
end
theorem Zx (n:Nat) (q:Int) (hq:q≤QS):Pure (Qt Try.prog (n+1)) 35 [(tI q)] (tS (Yp q)):=by
 refine Pure.intro (rs:= [ResultVar.tmp 2]) Try.func35 Y Y Y (E0:= [(0,(tI q))]) Y ?_
 obtain ⟨hlim,hmx,hmax⟩:=Zi
 refine sr (fO (OF.assign (VEv.str (⟨#[]⟩:ByteArray))) (nt (sq (sr (mO (tI q) Y (fO (xle (tv (tI q) Y) (VEv.int .i64 0)) (nt ?_)))))))
 refine cd (q≤0) Y (fun fhc0=> ?_) fun fhc0=> ?_
 ·refine sr ?_
  refine fO (OF.assign (VEv.str (⟨#[109,48]⟩:ByteArray))) (nt (rt (tr ?_)))
  refine vfin.eq (r':=(tS (⟨#[109,48]⟩:ByteArray))) ?_ (vfin.r (VRes.tmp (t:=(tS (⟨#[109,48]⟩:ByteArray))) Y VRes.nil) (Give.str _))
  refine congrArg T.str ?_
  exact (if_pos fhc0).symm
 refine sk (tn (sr (fO (OF.assign (VEv.str (⟨#[]⟩:ByteArray))) (nt (sq (VRun.block ?_))))))
 refine VRun.loop (A:=Int×Nat×ByteArray) (fun s_=> [(0,(tI s_.1)),(2,(tS (⟨#[]⟩:ByteArray))),(3,(tS s_.2.2))]) (fun s_=>Yy []) 0 (fun s_=>0≤s_.1∧s_.1.toNat≤s_.2.1∧s_.2.2.size+s_.2.1≤q.toNat∧Qac q.toNat q ⟨#[]⟩=Qac s_.2.1 s_.1 s_.2.2) (fun s_=>s_.2.1) ((q,q.toNat,⟨#[]⟩):Int×Nat×ByteArray) ?_ (Wk.mk (fun k=>k) ?_ ?_ ?_) ?_
 ·exact ⟨by omega,Nat.le_refl _,by show 0+q.toNat≤q.toNat;omega,rfl⟩
 ·exact (b2 (b2 (bc ⟨(congrArg T.str (show (⟨#[]⟩:ByteArray)=⟨#[]⟩ from (by rfl))),rfl⟩ bn)))
 ·exact bn
 ·exact nd Y
 rintro ⟨k,f,acc⟩ (hI':0≤k∧k.toNat≤f∧acc.size+f≤q.toNat∧Qac q.toNat q ⟨#[]⟩=Qac f k acc)
 show VRun _ _ _ [(0,(tI k)),(2,(tS (⟨#[]⟩:ByteArray))),(3,(tS acc))] (Yy []) 0 _
 have hI1:=hI'.1
 have hI2:=hI'.2.1
 have hI3:=hI'.2.2.1
 have hI4:=hI'.2.2.2
 refine sq (sr (mO (tI k) Y (fO (xgt (tv (tI k) Y) (VEv.int .i64 0)) (nt ?_))))
 refine cd (0<k) Y (fun fhc1=> ?_) fun fhc1=> ?_
 ·obtain ⟨m1,m2,m3,m4⟩:=Qep fhc1
  refine sk (tn (VRun.block (sr (mO (tI k) Y (fO (B.rem (n:=(k.tmod 10)) (tv (tI k) Y) (VEv.int .i64 10) (by omega) (by rfl)) (fO (B.add (n:=(48+(k.tmod 10))) (VEv.int .i64 48) (tv (tI (k.tmod 10)) Y) (by (rw [QT (by omega)];done))) (fO (OF.convI (tv (tI (48+(k.tmod 10))) Y) (k0:= .i64) U3 U5) (kO (OM.buildSlice (l:= [(T.int .u8 (IntKind.u8.wrap (48+(k.tmod 10))))]) (VEvp.cons (tv (T.int .u8 (IntKind.u8.wrap (48+(k.tmod 10)))) Y) VEvp.nil) Y (by decide) (bc (nofun) bn) (bc ((bc (Y) bn)) bn) (bc (Y) bn) U67 zo5 (by kernel_rfl) Y (by rw [sz5];decide) sz5 (Nat.le_of_ble_eq_true Y)) (lO (B.convBS (l:= [IntKind.u8.wrap (48+(k.tmod 10))]) (tv (T.os 1 0 0 1) Y) Y Y U67 U5 U9) (mO (tS acc) Y (fO (B.sadd (tv (tS (Yr [IntKind.u8.wrap (48+(k.tmod 10))])) Y) (tv (tS acc) Y) (by (simp only [QdK];omega))) ?_)))))))))))
  refine aO (tS ((Yr [IntKind.u8.wrap (48+(k.tmod 10))])++acc)) Y (nt (VRun.region (mO (tI k) Y (fO (B.quo (n:=(k.tdiv 10)) (tv (tI k) Y) (VEv.int .i64 10) (by omega) (by (rw [QT (by omega)];done))) (aO (tI (k.tdiv 10)) Y (VRunO.nil (vinB.n (tn ?_))))))))
  obtain ⟨n1,n2,n3⟩:=QcO (acc:=acc) fhc1 hI2
  refine ⟨((k.tdiv 10,f - 1,Yr [IntKind.u8.wrap (48+k.tmod 10)]++acc):Int×Nat×ByteArray),?_,?_,Wk.mk (fun k=>k) ?_ ?_ ?_⟩
  ·exact ⟨n1,n2,by show (Yr _++acc).size+(f - 1)≤q.toNat;rw [ByteArray.size_append,QdK];omega,hI4.trans n3⟩
  ·(simp only [];omega)
  ·exact (b2 (b2 (bc ⟨(congrArg T.str (show ((Yr [IntKind.u8.wrap (48+(k.tmod 10))])++acc)=(Yr [IntKind.u8.wrap (48+k.tmod 10)]++acc) from (by rfl))),rfl⟩ bn)))
  ·exact bn
  ·exact nd Y
 refine VRun.exit (vthn.e (vthn.e (vinB.e (tn (sr (mO (tS acc) Y (fO (B.sadd (VEv.str (⟨#[109]⟩:ByteArray)) (tv (tS acc) Y) (by (rw [show (⟨#[109]⟩:ByteArray).size=1 from rfl];omega))) (aO (tS ((⟨#[109]⟩:ByteArray)++acc)) Y (nt (rt ?_))))))))))
 refine vfin.eq (r':=(tS ((⟨#[109]⟩:ByteArray)++acc))) ?_ (vfin.r (VRes.tmp (t:=(tS ((⟨#[109]⟩:ByteArray)++acc))) Y VRes.nil) (Give.str _))
 refine congrArg T.str ?_
 unfold Yp
 rw [if_neg fhc0,hI4,Qdj fhc1]
noncomputable section
def Qy (k:Nat):ByteArray:=Yp ((k:Nat):Int)
end
theorem Y9 (n:Nat) (a:List ByteArray) (k:Nat) (hk:k+1*a.length≤QS):Mut (Qt Try.prog (n+2)) 24 1 (a.map (Qf true)) [(tN k)] (some ((k+1*a.length:Nat):Int)) ((Yz Qy 1 k a.length).map (Qf true)):=by
 refine Mut.intro (rt:=4) Try.func24 Y Y Y (by kernel_rfl) (Ys (fun _=>rfl) _) (Ys (fun _=>rfl) _) (E0:= [(1,(tN k))]) Y ?_
 obtain ⟨hlim,hmx,hmax⟩:=Zi
 refine sr (fO (OF.assign (VEv.int .i64 0)) (nt (sq (sr (fO (OF.assign (VEv.int .i64 0)) (nt (VRun.block ?_)))))))
 have he1:a=Zy Qy 1 k a 0:=by first | rfl | (refine ZV ?_;omega) | (simp only [List.set_set];refine ZV ?_;omega) | (simp;done) | omega
 refine VRun.loop (A:=Nat) (fun s_=> [(0,(T.os 1 0 0 (((Zy Qy 1 k a s_).map (Qf true)).length))),(1,(tN (k+1*s_))),(4,(tN 0)),(5,(tN s_))]) (fun s_=>Yy [(0,(Obj.rows 1 ((Zy Qy 1 k a s_).map (Qf true))))]) 1 (fun s_=>s_≤a.length) (fun s_=>a.length - s_) (0:Nat) ?_ (Wk.mk (fun k=>k) ?_ ?_ ?_) ?_
 ·first | trivial | (simp;done) | omega | (constructor<;>simp)
 ·exact (bc ⟨(congrArg (fun l_=>T.os 1 0 0 (List.map (Qf true) l_).length) he1),rfl⟩ (bc ⟨(congrArg (T.int .i64) (show ((k:Nat):Int)=((k+1*0:Nat):Int) from (by first | rfl | omega | (simp;done) | (push_cast;omega)))),rfl⟩ (b2 (b2 bn))))
 ·exact (bc ⟨(congrArg (fun l_=>some (Obj.rows 1 (List.map (Qf true) l_))) he1),(lb Y),rfl⟩ bn)
 ·exact nd Y
 rintro i (hI':i≤a.length)
 show VRun _ _ _ [(0,(T.os 1 0 0 (((Zy Qy 1 k a i).map (Qf true)).length))),(1,(tN (k+1*i))),(4,(tN 0)),(5,(tN i))] (Yy [(0,(Obj.rows 1 ((Zy Qy 1 k a i).map (Qf true))))]) 1 _
 have hml:=YT (f:=Qy) (w:=1) (k:=k) hI'
 refine sq (sr (mO (tN i) Y (mO (T.os 1 0 0 (((Zy Qy 1 k a i).map (Qf true)).length)) Y (lO (B.lenO (m:=(Zy Qy 1 k a i).length) (tv (T.os 1 0 0 (((Zy Qy 1 k a i).map (Qf true)).length)) Y) U36 (List.length_map ..)) (fO (Yw (tv (tN i) Y) (tv (tN ((Zy Qy 1 k a i).length)) Y)) (nt ?_))))))
 refine cd (i<(Zy Qy 1 k a i).length) Y (fun fhc0=> ?_) fun fhc0=> ?_
 ·refine sk ?_
  refine tn (sq (VRun.block (sr (mO (T.os 1 0 0 (((Zy Qy 1 k a i).map (Qf true)).length)) Y (mO (tN i) Y (mO (tN (k+1*i)) Y (cO (cS (vc (tv (tN (k+1*i)) Y) vn) (JF Y) (Zx (n+0) ((k+1*i:Nat):Int) (by first | omega | (simp only [List.length_set];omega) | assumption | omega)) Y Y) ?_)))))))
  obtain ⟨x1,hx1⟩:∃x,(Zy Qy 1 k a i)[i]? =some x:=⟨_,List.getElem?_eq_getElem (by first | omega | (simp only [List.length_set];omega) | omega)⟩
  refine fO (B.indexAddrO (i:=i) (tv (T.os 1 0 0 (((Zy Qy 1 k a i).map (Qf true)).length)) Y) (tv (tN i) Y) Y (by first | omega | (simp only [List.length_set];omega) | omega | (simp only [List.length_map];omega) | (simp only [List.length_map,List.length_append,List.length_cons,List.length_nil,List.length_replicate,List.length_set,List.length_drop,List.length_take,QS] at *;omega)) U36 sz9 if9) (cO (B.storeP (us:= [(tS (Yp ((k+1*i:Nat):Int)))]) (rows':=(((Zy Qy 1 k a i).set i (Yp ((k+1*i:Nat):Int))).map (Qf true))) (row:=(Qf true x1)) (tv (T.orp 1 0 i 0) Y) (tv (tS (Yp ((k+1*i:Nat):Int))) Y) nofun Y (QE _ hx1) Y (lb Y) if9 sz9 (bc Y bn) (by intro r hr t ht;obtain ⟨x,_,rfl⟩:=List.mem_map.1 hr;rw [Qeg] at ht;exact Z7 (okStr.pl _ t ht)) (YA Y)) (nt (VRun.region (mO (tN (k+1*i)) Y (fO (Zu (tv (tN (k+1*i)) Y) (VEv.int .i64 1) (by first | omega | (simp only [List.length_set];omega) | omega)) (aO (tN (k+1*i+1)) Y (VRunO.nil (vinB.n (tn (VRun.region (mO (tN i) Y ?_)))))))))))
  refine fO (Zu (tv (tN i) Y) (VEv.int .i64 1) (by first | omega | (simp only [List.length_set];omega) | omega)) (aO (tN (i+1)) Y (VRunO.nil (tn ?_)))
  have hi1:i+1≤a.length:=by omega
  have he2:((Zy Qy 1 k a i).set i (Yp ((k+1*i:Nat):Int)))=Zy Qy 1 k a (i+1):=by first | rfl | (refine ZV ?_;omega) | (simp only [List.set_set];refine ZV ?_;omega) | (simp;done) | omega
  refine ⟨(i+1:Nat),?_,?_,Wk.mk (fun k=>k) ?_ ?_ ?_⟩
  ·first | trivial | omega | (simp;done) | exact ⟨by omega,hI'.2⟩
  ·first | omega | (simp only [];omega) | (show _<_;omega) | (simp;omega)
  ·exact (bc ⟨(congrArg (fun n_=>T.os 1 0 0 n_) (show ((Zy Qy 1 k a i).map (Qf true)).length=((Zy Qy 1 k a (i+1)).map (Qf true)).length from (by first | rfl | (rw [List.length_map,List.length_map,YT hI',YT hi1]) | (simp only [List.length_map];omega) | (simp only [List.length_map,List.length_set,List.length_append,List.length_take,List.length_replicate,List.length_cons,List.length_nil];omega)))),rfl⟩ (bc ⟨(congrArg (T.int .i64) (show (((k+1*i+1):Nat):Int)=((k+1*(i+1):Nat):Int) from (by first | rfl | omega | (simp;done) | (push_cast;omega)))),rfl⟩ (b2 (b2 bn))))
  ·exact (bc ⟨(congrArg (fun l_=>some (Obj.rows 1 (List.map (Qf true) l_))) he2),(lb Y),rfl⟩ bn)
  ·exact nd Y
 refine VRun.exit (vthn.e (vthn.e (vinB.e (tn (sr (mO (tN (k+1*i)) Y (aO (tN (k+1*i)) Y (nt (rt ?_)))))))))
 refine vmut.r (r0:=((k+1*i:Nat):Int)) (rows:=((Zy Qy 1 k a i).map (Qf true))) Y Y Y ?_ ?_ Y
 ·first | rfl | (push_cast;omega) | (have:i=a.length:=(by omega);subst this;rfl)
 ·show List.map _ (Zy Qy 1 k a i)=List.map _ (Yz Qy 1 k a.length)
  refine congrArg (List.map _) ?_
  exact Qcz hI' (by omega)
noncomputable section
def Qs (k:Nat):D.Used:=(D.Used.mk (Yp ((k:Nat):Int)) ((k+1:Nat):Int))
end
theorem Yc (n:Nat) (a:List D.Used) (k:Nat) (hk:k+2*a.length≤QS):Mut (Qt Try.prog (n+2)) 23 2 (a.map (Qa true)) [(tN k)] (some ((k+2*a.length:Nat):Int)) ((Yz Qs 2 k a.length).map (Qa true)):=by
 refine Mut.intro (rt:=4) Try.func23 Y Y Y (by kernel_rfl) (Ys (fun _=>rfl) _) (Ys (fun _=>rfl) _) (E0:= [(1,(tN k))]) Y ?_
 obtain ⟨hlim,hmx,hmax⟩:=Zi
 refine sr (fO (OF.assign (VEv.int .i64 0)) (nt (sq (sr (fO (OF.assign (VEv.int .i64 0)) (nt (VRun.block ?_)))))))
 have he1:a=Zy Qs 2 k a 0:=by first | rfl | (refine ZV ?_;omega) | (simp only [List.set_set];refine ZV ?_;omega) | (simp;done) | omega
 refine VRun.loop (A:=Nat) (fun s_=> [(0,(T.os 2 0 0 (((Zy Qs 2 k a s_).map (Qa true)).length))),(1,(tN (k+2*s_))),(4,(tN 0)),(5,(tN s_))]) (fun s_=>Yy [(0,(Obj.rows 2 ((Zy Qs 2 k a s_).map (Qa true))))]) 1 (fun s_=>s_≤a.length) (fun s_=>a.length - s_) (0:Nat) ?_ (Wk.mk (fun k=>k) ?_ ?_ ?_) ?_
 ·first | trivial | (simp;done) | omega | (constructor<;>simp)
 ·exact (bc ⟨(congrArg (fun l_=>T.os 2 0 0 (List.map (Qa true) l_).length) he1),rfl⟩ (bc ⟨(congrArg (T.int .i64) (show ((k:Nat):Int)=((k+2*0:Nat):Int) from (by first | rfl | omega | (simp;done) | (push_cast;omega)))),rfl⟩ (b2 (b2 bn))))
 ·exact (bc ⟨(congrArg (fun l_=>some (Obj.rows 2 (List.map (Qa true) l_))) he1),(lb Y),rfl⟩ bn)
 ·exact nd Y
 rintro i (hI':i≤a.length)
 show VRun _ _ _ [(0,(T.os 2 0 0 (((Zy Qs 2 k a i).map (Qa true)).length))),(1,(tN (k+2*i))),(4,(tN 0)),(5,(tN i))] (Yy [(0,(Obj.rows 2 ((Zy Qs 2 k a i).map (Qa true))))]) 1 _
 have hml:=YT (f:=Qs) (w:=2) (k:=k) hI'
 refine sq (sr (mO (tN i) Y (mO (T.os 2 0 0 (((Zy Qs 2 k a i).map (Qa true)).length)) Y (lO (B.lenO (m:=(Zy Qs 2 k a i).length) (tv (T.os 2 0 0 (((Zy Qs 2 k a i).map (Qa true)).length)) Y) Zg (List.length_map ..)) (fO (Yw (tv (tN i) Y) (tv (tN ((Zy Qs 2 k a i).length)) Y)) (nt ?_))))))
 refine cd (i<(Zy Qs 2 k a i).length) Y (fun fhc0=> ?_) fun fhc0=> ?_
 ·refine sk ?_
  refine tn (sq (VRun.block (sr (mO (T.os 2 0 0 (((Zy Qs 2 k a i).map (Qa true)).length)) Y (mO (tN i) Y (mO (tN (k+2*i)) Y (cO (cS (vc (tv (tN (k+2*i)) Y) vn) (JF Y) (Zx (n+0) ((k+2*i:Nat):Int) (by first | omega | (simp only [List.length_set];omega) | assumption | omega)) Y Y) ?_)))))))
  obtain ⟨x1,hx1⟩:∃x,(Zy Qs 2 k a i)[i]? =some x:=⟨_,List.getElem?_eq_getElem (by first | omega | (simp only [List.length_set];omega) | omega)⟩
  refine fO (B.indexAddrO (i:=i) (tv (T.os 2 0 0 (((Zy Qs 2 k a i).map (Qa true)).length)) Y) (tv (tN i) Y) Y (by first | omega | (simp only [List.length_set];omega) | omega | (simp only [List.length_map];omega) | (simp only [List.length_map,List.length_append,List.length_cons,List.length_nil,List.length_replicate,List.length_set,List.length_drop,List.length_take,QS] at *;omega)) Zg Qu Zz) (fO (OF.fieldAddrP (tv (T.orp 2 0 i 0) Y) Zw) (cO (B.storeP (us:= [(tS (Yp ((k+2*i:Nat):Int)))]) (rows':=(((Zy Qs 2 k a i).set i (D.Used.mk (Yp ((k+2*i:Nat):Int)) x1.Issue)).map (Qa true))) (row:=(Qa true x1)) (tv (T.orp 2 0 i 0) Y) (tv (tS (Yp ((k+2*i:Nat):Int))) Y) nofun Y (QE _ hx1) Y (lb Y) if9 sz9 (bc Y bn) (by intro r hr t ht;obtain ⟨x,_,rfl⟩:=List.mem_map.1 hr;rw [Qcx] at ht;exact Z7 (okeUsed.pl _ t ht)) (YA Y)) (nt (sr (mO (tN (k+2*i)) Y (fO (Zu (tv (tN (k+2*i)) Y) (VEv.int .i64 1) (by first | omega | (simp only [List.length_set];omega) | omega)) (aO (tN (k+2*i+1)) Y (nt (sr (mO (T.os 2 0 0 (((Zy Qs 2 k a i).map (Qa true)).length)) Y (mO (tN i) Y ?_)))))))))))
  refine mO (tN (k+2*i+1)) Y (fO (B.indexAddrO (i:=i) (tv (T.os 2 0 0 (((Zy Qs 2 k a i).map (Qa true)).length)) Y) (tv (tN i) Y) Y (by first | omega | (simp only [List.length_set];omega) | omega | (simp only [List.length_map];omega) | (simp only [List.length_map,List.length_append,List.length_cons,List.length_nil,List.length_replicate,List.length_set,List.length_drop,List.length_take,QS] at *;omega)) Zg Qu Zz) (fO (OF.fieldAddrP (tv (T.orp 2 0 i 0) Y) Q4) (cO (B.storeP (us:= [(tN (k+2*i+1))]) (rows':=((((Zy Qs 2 k a i).set i (D.Used.mk (Yp ((k+2*i:Nat):Int)) x1.Issue)).set i (D.Used.mk (Yp ((k+2*i:Nat):Int)) (((k+2*i+1):Nat):Int))).map (Qa true))) (row:=(Qa true (D.Used.mk (Yp ((k+2*i:Nat):Int)) x1.Issue))) (tv (T.orp 2 0 i 1) Y) (tv (tN (k+2*i+1)) Y) nofun Y (QE _ (QeH (by first | omega | (simp only [List.length_set];omega) | omega | (simp only [List.length_map];omega) | (simp only [List.length_map,List.length_append,List.length_cons,List.length_nil,List.length_replicate,List.length_set,List.length_drop,List.length_take,QS] at *;omega)))) Y (lb Y) if3 sz3 (bc Y bn) (by intro r hr t ht;obtain ⟨x,_,rfl⟩:=List.mem_map.1 hr;rw [Qcx] at ht;exact Z7 (okeUsed.pl _ t ht)) (YA Y)) (nt (VRun.region (mO (tN (k+2*i+1)) Y (fO (Zu (tv (tN (k+2*i+1)) Y) (VEv.int .i64 1) (by first | omega | (simp only [List.length_set];omega) | omega)) (aO (tN ((k+2*i+1)+1)) Y (VRunO.nil (vinB.n (tn ?_)))))))))))
  refine VRun.region (mO (tN i) Y (fO (Zu (tv (tN i) Y) (VEv.int .i64 1) (by first | omega | (simp only [List.length_set];omega) | omega)) (aO (tN (i+1)) Y (VRunO.nil (tn ?_)))))
  have hi1:i+1≤a.length:=by omega
  have he2:(((Zy Qs 2 k a i).set i (D.Used.mk (Yp ((k+2*i:Nat):Int)) x1.Issue)).set i (D.Used.mk (Yp ((k+2*i:Nat):Int)) (((k+2*i+1):Nat):Int)))=Zy Qs 2 k a (i+1):=by first | rfl | (refine ZV ?_;omega) | (simp only [List.set_set];refine ZV ?_;omega) | (simp;done) | omega
  refine ⟨(i+1:Nat),?_,?_,Wk.mk (fun k=>k) ?_ ?_ ?_⟩
  ·first | trivial | omega | (simp;done) | exact ⟨by omega,hI'.2⟩
  ·first | omega | (simp only [];omega) | (show _<_;omega) | (simp;omega)
  ·exact (bc ⟨(congrArg (fun n_=>T.os 2 0 0 n_) (show ((Zy Qs 2 k a i).map (Qa true)).length=((Zy Qs 2 k a (i+1)).map (Qa true)).length from (by first | rfl | (rw [List.length_map,List.length_map,YT hI',YT hi1]) | (simp only [List.length_map];omega) | (simp only [List.length_map,List.length_set,List.length_append,List.length_take,List.length_replicate,List.length_cons,List.length_nil];omega)))),rfl⟩ (bc ⟨(congrArg (T.int .i64) (show ((((k+2*i+1)+1):Nat):Int)=((k+2*(i+1):Nat):Int) from (by first | rfl | omega | (simp;done) | (push_cast;omega)))),rfl⟩ (b2 (b2 bn))))
  ·exact (bc ⟨(congrArg (fun l_=>some (Obj.rows 2 (List.map (Qa true) l_))) he2),(lb Y),rfl⟩ bn)
  ·exact nd Y
 refine VRun.exit (vthn.e (vthn.e (vinB.e (tn (sr (mO (tN (k+2*i)) Y (aO (tN (k+2*i)) Y (nt (rt ?_)))))))))
 refine vmut.r (r0:=((k+2*i:Nat):Int)) (rows:=((Zy Qs 2 k a i).map (Qa true))) Y Y Y ?_ ?_ Y
 ·first | rfl | (push_cast;omega) | (have:i=a.length:=(by omega);subst this;rfl)
 ·show List.map _ (Zy Qs 2 k a i)=List.map _ (Yz Qs 2 k a.length)
  refine congrArg (List.map _) ?_
  exact Qcz hI' (by omega)
theorem Yd (n:Nat) (a:List D.Used) (k:Nat) (hh:a=Yz Qs 2 k a.length) (hk:k+2*a.length≤QS):Pure (Qt Try.prog (n+2)) 25 [(rd 2 Qa a),(tN k)] (tN (k+2*a.length)):=by
 refine Pure.intro (rs:= [ResultVar.tmp 4]) Try.func25 Y Y Y (E0:= [(0,(rd 2 Qa a)),(1,(tN k))]) Y ?_
 obtain ⟨hlim,hmx,hmax⟩:=Zi
 refine sr (fO (OF.assign (VEv.int .i64 0)) (nt (sq (sr (fO (OF.assign (VEv.int .i64 0)) (nt (VRun.block ?_)))))))
 refine VRun.loop (A:=Nat) (fun s_=> [(0,(rd 2 Qa a)),(1,(tN (k+2*s_))),(5,(tN s_))]) (fun s_=>Yy []) 0 (fun s_=>s_≤a.length) (fun s_=>a.length - s_) (0:Nat) ?_ (Wk.mk (fun k=>k) ?_ ?_ ?_) ?_
 ·first | trivial | (simp;done) | omega | (constructor<;>simp)
 ·exact (b2 (bc ⟨(congrArg (T.int .i64) (show ((k:Nat):Int)=((k+2*0:Nat):Int) from (by first | rfl | omega | (simp;done) | (push_cast;omega)))),rfl⟩ (b2 bn)))
 ·exact bn
 ·exact nd Y
 rintro i (hI':i≤a.length)
 show VRun _ _ _ [(0,(rd 2 Qa a)),(1,(tN (k+2*i))),(5,(tN i))] (Yy []) 0 _
 refine sq (sr (mO (tN i) Y (mO (rd 2 Qa a) Y (lO (B.lenR (m:=a.length) (tv (rd 2 Qa a) Y) Zg (List.length_map ..)) (fO (Yw (tv (tN i) Y) (tv (tN a.length) Y)) (nt ?_))))))
 refine cd (i<a.length) Y (fun fhc0=> ?_) fun fhc0=> ?_
 ·refine sk ?_
  refine tn (sq (VRun.block (sq (sq (VRun.draw (B:= [[],[],[1,0],[0,1,2],[2,1,0,3],[],[5],[5,6,3,0,1,2,4]]) (by kernel_rfl) (by kernel_rfl) (mD (rd 2 Qa a) Y Y (mD (tN i) Y Y ?_)))))))
  obtain ⟨x1,hx1⟩:∃x,a[i]? =some x:=⟨_,List.getElem?_eq_getElem (by omega)⟩
  refine fD (OF.indexAddrR (row:=(Qa false x1)) (i:=i) (tv (rd 2 Qa a) Y) (tv (tN i) Y) Y (QE _ hx1) Zg Qu Zz) Y Y (fD (B.fieldAddrR (us:=(Qa false x1)) (tv (T.rp (Qa false x1)) Y) (lb Y) Zw Y) Y Y (lD (OL.loadR1 (t:=(tS x1.Word)) (tv (T.rp (Qa false x1)) Y) Y st9) Y Y (mD (tN (k+2*i)) Y Y (VRunD.quiet (bi:= [5]) Y VWant.always Y Y Y bn (cS (vc (tv (tN (k+2*i)) Y) vn) (JF Y) (Zx (n+0) ((k+2*i:Nat):Int) (by first | assumption | omega)) Y Y) (fD (B.sneq (c:=(!(decide (x1.Word=Yp ((k+2*i:Nat):Int))))) (tv (tS x1.Word) Y) (tv (tS (Yp ((k+2*i:Nat):Int))) Y) Y) Y Y (VRunD.nil (tn ?_)))))))
  refine cn (x1.Word=Yp ((k+2*i:Nat):Int)) Y (fun fhc1=> ?_) fun fhc1=> ?_
  ·exact absurd (congrArg (fun x=>x.Word) (QdN hh hx1)) fhc1
  refine sk (tn (sr (mO (tN (k+2*i)) Y (fO (Zu (tv (tN (k+2*i)) Y) (VEv.int .i64 1) (by omega)) (aO (tN (k+2*i+1)) Y (nt (sq (sr (mO (rd 2 Qa a) Y (mO (tN i) Y (fO (OF.indexAddrR (row:=(Qa false x1)) (i:=i) (tv (rd 2 Qa a) Y) (tv (tN i) Y) Y (QE _ hx1) Zg Qu Zz) ?_)))))))))))
  refine lr (tI x1.Issue) Y (lb Y) Q4 Y st3 (mO (tN (k+2*i+1)) Y (fO (xne (tv (tI x1.Issue) Y) (tv (tN (k+2*i+1)) Y)) (nt ?_)))
  refine cn (x1.Issue=(((k+2*i+1):Nat):Int)) Y (fun fhc2=> ?_) fun fhc2=> ?_
  ·exact absurd (congrArg (fun x=>x.Issue) (QdN hh hx1)) fhc2
  refine sk (tn (VRun.region (mO (tN (k+2*i+1)) Y (fO (Zu (tv (tN (k+2*i+1)) Y) (VEv.int .i64 1) (by omega)) (aO (tN ((k+2*i+1)+1)) Y (VRunO.nil (vinB.n (tn (VRun.region (mO (tN i) Y (fO (Zu (tv (tN i) Y) (VEv.int .i64 1) (by omega)) ?_)))))))))))
  refine aO (tN (i+1)) Y (VRunO.nil (tn ?_))
  refine ⟨(i+1:Nat),?_,?_,Wk.mk (fun k=>k) ?_ ?_ ?_⟩
  ·first | trivial | omega | (simp;done) | exact ⟨by omega,hI'.2⟩
  ·first | omega | (simp only [];omega) | (show _<_;omega) | (simp;omega)
  ·exact (b2 (bc ⟨(congrArg (T.int .i64) (show ((((k+2*i+1)+1):Nat):Int)=((k+2*(i+1):Nat):Int) from (by first | rfl | omega | (simp;done) | (push_cast;omega)))),rfl⟩ (b2 bn)))
  ·exact bn
  ·exact nd Y
 refine VRun.exit (vthn.e (vthn.e (vinB.e (tn (sr (mO (tN (k+2*i)) Y (aO (tN (k+2*i)) Y (nt (rt (vi (n':=((k+2*i:Nat):Int)) Y ?_))))))))))
 omega
theorem QH (n:Nat) (a:List D.Used) (ha:a.length≤2*mx):Pure (Qt Try.prog (n+1)) 40 [(rd 2 Qa a)] (T.sl true 2 (a.map (Qa true))):=by
 refine Pure.intro (rs:= [ResultVar.tmp 2]) Try.func40 Y Y Y (E0:= [(0,(rd 2 Qa a))]) Y ?_
 obtain ⟨hlim,hmx,hmax⟩:=Zi
 refine sr (fO (OF.assign VEv.nils) (nt (sq (sr (mO (rd 2 Qa a) Y ?_)))))
 refine VRunO.nilEq VWant.always (tv (rd 2 Qa a) Y) VEv.nils Zg (fun bn1 hbn1=> ?_)
 refine nt ?_
 refine VRun.cond (tv (tB bn1) Y) (fun hc0=> ?_) (fun hc0=> ?_)
 ·have fhc0:bn1=true:=hc0
  have ebn1:=hbn1 hc0
  refine sr (fO (OF.assign VEv.nils) (nt (rt (tr ?_))))
  refine vfin.eq (r':=(T.sl true 2 [])) ?_ (vfin.r (VRes.tmp (t:=T.nils) Y VRes.nil) (Give.nils 2))
  refine congrArg (fun l_=>T.sl true 2 (List.map (Qa true) l_)) (a₁:= []) ?_
  exact (List.map_eq_nil_iff.1 ebn1).symm
 have fhc0:bn1=false:=hc0
 refine sk (tn (sr (kO (OM.slice0 Zg Zt (by kernel_rfl) Y (by rw [Qu];decide) Qu) (mO (rd 2 Qa a) Y (cO (B.append (rows:= []) (rows2:=(a.map (Qa false))) (rows3:=(a.map (Qa true))) (VDst.own (tv (T.os 2 0 0 0) Y) Y Y) (VSrc.read (tv (rd 2 Qa a) Y) Zg (okeUsed.okMap _ _)) nofun Zg Qu (by decide) Zt Y (of_decide_eq_true (by kernel_rfl)) (by first | omega | (simp only [List.length_map];omega) | (simp only [List.length_map,List.length_append,List.length_cons,List.length_nil,List.length_replicate,List.length_set,List.length_drop,List.length_take,QS] at *;omega)) (List.nil_append _)) (aO (T.os 2 1 0 ((a.map (Qa true)).length)) Y (nt (rt ?_))))))))
 refine vfin.eq (r':=(T.sl true 2 (a.map (Qa true)))) ?_ (vfin.r (VRes.tmp (t:=(T.os 2 1 0 ((a.map (Qa true)).length))) Y VRes.nil) (Give.os Y Y (okeUsed.cleanMap _)))
 rfl
noncomputable section
theorem QbS : ∀ {a b:List UInt8},Op.bytesLess a b=true→Op.bytesLess b a=true→False
 | _,[],h,_=>by simp [Op.bytesLess] at h
 | [],_::_,_,h=>by simp [Op.bytesLess] at h
 | x::r,y::s,h,h2=>by
  simp only [Op.bytesLess,Bool.or_eq_true,Bool.and_eq_true,decide_eq_true_eq,beq_iff_eq,UInt8.lt_iff_toNat_lt] at h h2
  rcases h with h | ⟨rfl,h⟩
  ·rcases h2 with h2 | ⟨e,_⟩
   ·omega
   ·rw [e] at h;omega
  ·rcases h2 with h2 | ⟨_,h2⟩
   ·omega
   ·exact QbS h h2
theorem Qca : ∀ {a b c:List UInt8},Op.bytesLess a b=true→Op.bytesLess b c=true→Op.bytesLess a c=true
 | _,[],_,h,_=>by simp [Op.bytesLess] at h
 | _,_::_,[],_,h=>by simp [Op.bytesLess] at h
 | [],_::_,_::_,_,_=>by simp [Op.bytesLess]
 | x::r,y::s,z::t,h,h2=>by
  simp only [Op.bytesLess,Bool.or_eq_true,Bool.and_eq_true,decide_eq_true_eq,beq_iff_eq,UInt8.lt_iff_toNat_lt] at h h2 ⊢
  rcases h with h | ⟨rfl,h⟩
  ·rcases h2 with h2 | ⟨rfl,_⟩
   ·exact .inl (by omega)
   ·exact .inl h
  ·rcases h2 with h2 | ⟨rfl,h2⟩
   ·exact .inl h2
   ·exact .inr ⟨rfl,Qca h h2⟩
theorem Qdg {a b:ByteArray} (h:QU a b=true) (h2:QU b a=true):False:=by
 unfold QU at h h2
 split at h
 ·rename_i e
  rw [if_pos e.symm] at h2
  exact QbS h h2
 ·rename_i e
  rw [if_neg (fun q=>e q.symm)] at h2
  rw [decide_eq_true_eq] at h h2
  omega
theorem Qde {a b c:ByteArray} (h:QU a b=true) (h2:QU b c=true):QU a c=true:=by
 unfold QU at h h2 ⊢
 split at h<;>split at h2
 ·rename_i e1 e2
  rw [if_pos (e1.trans e2)]
  exact Qca h h2
 ·rw [decide_eq_true_eq] at h2
  rw [if_neg (by omega),decide_eq_true_eq]
  omega
 ·rw [decide_eq_true_eq] at h
  rw [if_neg (by omega),decide_eq_true_eq]
  omega
 ·rw [decide_eq_true_eq] at h h2
  rw [if_neg (by omega),decide_eq_true_eq]
  omega
theorem Qb8 {a b:D.Used} (h:QG a b=true) (h2:QG b a=true):False:=by
 simp only [QG,decide_eq_true_eq] at h h2
 rcases h with h | ⟨e,h⟩<;>rcases h2 with h2 | ⟨e2,h2⟩
 ·omega
 ·omega
 ·omega
 ·exact Qdg h h2
theorem Qdv {a b c:D.Used} (h:QG a b=true) (h2:QG b c=true):QG a c=true:=by
 simp only [QG,decide_eq_true_eq] at h h2 ⊢
 rcases h with h | ⟨e,h⟩<;>rcases h2 with h2 | ⟨e2,h2⟩
 ·exact .inl (by omega)
 ·exact .inl (by omega)
 ·exact .inl (by omega)
 ·exact .inr ⟨by omega,Qde h h2⟩
def Jh (l:List D.Used) (x:D.Used):Nat:=(l.takeWhile (fun y=>QG y x)).length
def Z2 (l:List D.Used) (x:D.Used):List D.Used:=l.take (Jh l x)++x::l.drop (Jh l x)
def Jq : List D.Used→D.Used→Nat
 | [],_=>0
 | y::r,x=>if Jq r x=0∧QG x y=true then 0 else Jq r x+1
def Z4 (l:List D.Used) (x:D.Used):List D.Used:=l.take (Jq l x)++x::l.drop (Jq l x)
def isLedU (l:List D.Used) (x:D.Used) (k:Nat):Prop:=k≤l.length∧∀j,j<k→∃y,l[j]? =some y∧QG y x=true
def isSufU (l:List D.Used) (x:D.Used) (k:Nat):Prop:=k≤l.length∧∀j,k≤j→j<l.length→∃y,l[j]? =some y∧QG x y=true
theorem J0 : ∀ {l:List D.Used} {x:D.Used} {k:Nat},isLedU l x k→(∀y,l[k]? =some y→QG y x=false)→Jh l x=k
 | [],x,k,h,hs=>by
  have:k=0:=by simpa using h.1
  subst this
  rfl
 | z::r,x,0,h,hs=>by
  have:=hs z Y
  unfold Jh
  rw [List.takeWhile_cons,if_neg (by rw [this];decide)]
  rfl
 | z::r,x,k+1,h,hs=>by
  obtain ⟨y,hy,h1⟩:=h.2 0 (by omega)
  obtain rfl:z=y:=by simpa using hy
  have ih:=J0 (l:=r) (x:=x) (k:=k) ⟨by simpa using h.1,fun j hj=>by
   obtain ⟨y,hy,h2⟩:=h.2 (j+1) (by omega)
   exact ⟨y,by simpa using hy,h2⟩⟩ (fun y hy=>hs y (by simpa using hy))
  unfold Jh at ih ⊢
  rw [List.takeWhile_cons,if_pos h1,List.length_cons,ih]
theorem Ji : ∀ {l:List D.Used} {x:D.Used} {k:Nat},isSufU l x k→(∀y,0<k→l[k - 1]? =some y→QG x y=false)→Jq l x=k
 | [],x,k,h,hs=>by
  have:k=0:=by simpa using h.1
  subst this
  rfl
 | z::r,x,0,h,hs=>by
  have ih:=Ji (l:=r) (x:=x) (k:=0) ⟨Nat.zero_le _,fun j _ hj=>by
   obtain ⟨y,hy,h2⟩:=h.2 (j+1) (by omega) (by simpa using hj)
   exact ⟨y,by simpa using hy,h2⟩⟩ (fun y h0=>absurd h0 (by omega))
  obtain ⟨y,hy,h1⟩:=h.2 0 (by omega) (by simp)
  obtain rfl:z=y:=by simpa using hy
  unfold Jq
  rw [if_pos ⟨ih,h1⟩]
 | z::r,x,k+1,h,hs=>by
  have ih:=Ji (l:=r) (x:=x) (k:=k) ⟨by simpa using h.1,fun j hk hj=>by
   obtain ⟨y,hy,h2⟩:=h.2 (j+1) (by omega) (by simpa using hj)
   exact ⟨y,by simpa using hy,h2⟩⟩ (fun y h0 hy=>hs y (by omega) (by
    obtain ⟨m,rfl⟩:∃m,k=m+1:=⟨k - 1,by omega⟩
    simpa using hy))
  unfold Jq
  rw [ih,if_neg]
  rintro ⟨rfl,h2⟩
  have:=hs z (by omega) Y
  rw [this] at h2
  cases h2
abbrev srt (l:List D.Used):Prop:=l.Pairwise (fun a b=>QG a b=true)
theorem QeA {l:List D.Used} {x:D.Used} (h:srt (Z2 l x)):Z4 l x=Z2 l x:=by
 unfold Z2 srt at h
 have e:Jq l x=Jh l x:=by
  have hle:Jh l x≤l.length:=by
   have h0:=congrArg List.length (List.takeWhile_append_dropWhile (p:=fun y=>QG y x) (l:=l))
   rw [List.length_append] at h0
   unfold Jh;omega
  rw [List.pairwise_append] at h
  obtain ⟨h1,h2,h3⟩:=h
  rw [List.pairwise_cons] at h2
  refine Ji ⟨hle,fun j hk hj=>⟨_,List.getElem?_eq_getElem hj,h2.1 _ ?_⟩⟩ (fun y h0 hy=> ?_)
  ·rw [List.mem_drop_iff_getElem]
   exact ⟨j - Jh l x,by omega,by congr 1;omega⟩
  ·have hm:y∈l.take (Jh l x):=by
    rw [List.mem_iff_getElem?]
    exact ⟨Jh l x - 1,by rw [List.getElem?_take,if_pos (by omega)];exact hy⟩
   have:=h3 y hm x (by simp)
   cases hb:QG x y with
   | false=>rfl
   | true=>exact (Qb8 hb this).elim
 unfold Z4 Z2
 rw [e]
theorem QcD : ∀(l:List D.Used) (x:D.Used),Jq l x≤l.length
 | [],_=>Nat.le_refl _
 | y::r,x=>by
  have:=QcD r x
  unfold Jq
  split
  ·exact Nat.zero_le _
  ·simp only [List.length_cons];omega
theorem Qey {l:List D.Used} {x:D.Used} (h:srt (Z4 l x)):Z2 l x=Z4 l x:=by
 unfold Z4 srt at h
 have e:Jh l x=Jq l x:=by
  have hle:=QcD l x
  rw [List.pairwise_append] at h
  obtain ⟨h1,h2,h3⟩:=h
  rw [List.pairwise_cons] at h2
  refine J0 ⟨hle,fun j hk=> ?_⟩ (fun y hy=> ?_)
  ·have hj:j<l.length:=by omega
   refine ⟨_,List.getElem?_eq_getElem hj,h3 _ ?_ x (by simp)⟩
   rw [List.mem_iff_getElem?]
   exact ⟨j,by rw [List.getElem?_take,if_pos hk];exact List.getElem?_eq_getElem hj⟩
  ·have hm:y∈l.drop (Jq l x):=by
    rw [List.mem_iff_getElem?]
    exact ⟨0,by rw [List.getElem?_drop];exact hy⟩
   have:=h2.1 y hm
   cases hb:QG y x with
   | false=>rfl
   | true=>exact (Qb8 hb this).elim
 unfold Z4 Z2
 rw [e]
theorem Qdn (l:List D.Used) (x:D.Used):l.Sublist (Z2 l x):=by
 unfold Z2
 conv=>lhs;rw [← List.take_append_drop (Jh l x) l]
 exact List.Sublist.append_left (List.sublist_cons_self _ _) _
theorem QdR (l:List D.Used) (x:D.Used):l.Sublist (Z4 l x):=by
 unfold Z4
 conv=>lhs;rw [← List.take_append_drop (Jq l x) l]
 exact List.Sublist.append_left (List.sublist_cons_self _ _) _
def Qh (l:List D.Used) (ws:List ByteArray) (n:Int):List D.Used:=ws.foldl (fun l w=>Z2 l (D.Used.mk w n)) l
def Ql (l:List D.Used) (ws:List ByteArray) (n:Int):List D.Used:=ws.foldl (fun l w=>Z4 l (D.Used.mk w n)) l
theorem QbJ (n:Int):∀(ws:List ByteArray) (l:List D.Used),l.Sublist (Qh l ws n)
 | [],l=>List.Sublist.refl _
 | w::r,l=>(Qdn l _).trans (QbJ n r (Z2 l (D.Used.mk w n)))
theorem QbM (n:Int):∀(ws:List ByteArray) (l:List D.Used),l.Sublist (Ql l ws n)
 | [],l=>List.Sublist.refl _
 | w::r,l=>(QdR l _).trans (QbM n r (Z4 l (D.Used.mk w n)))
theorem QdE (n:Int):∀(ws:List ByteArray) (l:List D.Used),srt (Qh l ws n)→Ql l ws n=Qh l ws n
 | [],l,_=>rfl
 | w::r,l,h=>by
  have h1:srt (Z2 l (D.Used.mk w n)):=List.Pairwise.sublist (QbJ n r _) h
  show Ql (Z4 l (D.Used.mk w n)) r n=Qh (Z2 l (D.Used.mk w n)) r n
  rw [QeA h1]
  exact QdE n r _ h
theorem QdF (n:Int):∀(ws:List ByteArray) (l:List D.Used),srt (Ql l ws n)→Qh l ws n=Ql l ws n
 | [],l,_=>rfl
 | w::r,l,h=>by
  have h1:srt (Z4 l (D.Used.mk w n)):=List.Pairwise.sublist (QbM n r _) h
  show Qh (Z2 l (D.Used.mk w n)) r n=Ql (Z4 l (D.Used.mk w n)) r n
  rw [Qey h1]
  exact QdF n r _ h
theorem QdD : ∀ {l:List D.Used},(∀j,0<j→j<l.length→∃x y,l[j]? =some x∧l[j - 1]? =some y∧QG y x=true)→srt l
 | [],_=>List.Pairwise.nil
 | [a],_=>by simp [srt]
 | a::b::r,h=>by
  have ih:=QdD (l:=b::r) (fun j h0 hj=>by
   obtain ⟨x,y,h1,h2,h3⟩:=h (j+1) (by omega) (by simpa using hj)
   refine ⟨x,y,by simpa using h1,?_,h3⟩
   obtain ⟨m,rfl⟩:∃m,j=m+1:=⟨j - 1,by omega⟩
   simpa using h2)
  obtain ⟨x,y,h1,h2,h3⟩:=h 1 (by omega) (by simp)
  obtain rfl:b=x:=by simpa using h1
  obtain rfl:a=y:=by simpa using h2
  refine List.Pairwise.cons (fun c hc=> ?_) ih
  rcases List.mem_cons.1 hc with rfl | hc
  ·exact h3
  ·exact Qdv h3 ((List.pairwise_cons.1 ih).1 c hc)
def Qd (l:List D.Used) (ws:List ByteArray) (n:Int):List D.Used:=if Qc (Qh l ws n) then Qh l ws n else l
theorem JM {l:List D.Used} {ws:List ByteArray} {n:Int} (h:Qc (Qh l ws n)):Qd l ws n=Qh l ws n:=if_pos h
theorem Qal {l:List D.Used} {ws:List ByteArray} {n:Int} (h:¬Qc (Qh l ws n)):Qd l ws n=l:=if_neg h
theorem JO {l:List D.Used} (h:Qc l):srt l:=QdD (fun j h0 hj=>by
 obtain ⟨x,h1,_,_,h2⟩:=h.2 j hj
 obtain ⟨y,h3,h4⟩:=h2 h0
 exact ⟨x,y,h1,h3,h4⟩)
theorem QcK {l:List D.Used} {ws:List ByteArray} {n:Int} (h:Qc (Ql l ws n)):Qh l ws n=Ql l ws n:=QdF n ws l (JO h)
theorem addS_iff {l:List D.Used} {ws:List ByteArray} {n:Int}:Qc (Ql l ws n)↔Qc (Qh l ws n):=⟨fun h=>by rw [QcK h];exact h,fun h=>by rw [QdE n ws l (JO h)];exact h⟩
theorem Qdq (l:List D.Used) (x:D.Used) (k:Nat):zL Qn (l.take k++x::l.drop k)=zL Qn l+Qn x+1:=by
 have e:zL Qn l=zL Qn (l.take k++l.drop k):=by rw [List.take_append_drop]
 rw [e,QaY,QaY]
 simp only [zL,Z5,List.length_cons];omega
theorem Qa7 (n:Int):∀(ws:List ByteArray) (l:List D.Used),zL Qn (Qh l ws n)=zL Qn l+zL ByteArray.size ws
 | [],l=>rfl
 | w::r,l=>by
  have h1:=Qa7 n r (Z2 l (D.Used.mk w n))
  have h2:=Qdq l (D.Used.mk w n) (Jh l (D.Used.mk w n))
  show zL Qn (Qh (Z2 l (D.Used.mk w n)) r n)=_
  rw [h1]
  unfold Z2
  rw [h2]
  simp only [zL,Z5,Qn,List.length_cons];omega
theorem Qbi (n:Int):∀(ws:List ByteArray) (l:List D.Used),zL Qn (Ql l ws n)=zL Qn l+zL ByteArray.size ws
 | [],l=>rfl
 | w::r,l=>by
  have h1:=Qbi n r (Z4 l (D.Used.mk w n))
  have h2:=Qdq l (D.Used.mk w n) (Jq l (D.Used.mk w n))
  show zL Qn (Ql (Z4 l (D.Used.mk w n)) r n)=_
  rw [h1]
  unfold Z4
  rw [h2]
  simp only [zL,Z5,Qn,List.length_cons];omega
theorem JE {l:List D.Used} {ws:List ByteArray} {n:Int} {i:Nat} {w:ByteArray} (h:ws[i]? =some w):Qh l (ws.take (i+1)) n=Z2 (Qh l (ws.take i) n) (D.Used.mk w n):=by
 unfold Qh
 rw [List.take_add_one,h,List.foldl_append]
 rfl
theorem JI {l:List D.Used} {ws:List ByteArray} {n:Int} {i:Nat} {w:ByteArray} (h:ws[i]? =some w):Ql l (ws.take (i+1)) n=Z4 (Ql l (ws.take i) n) (D.Used.mk w n):=by
 unfold Ql
 rw [List.take_add_one,h,List.foldl_append]
 rfl
theorem isLedU.next {l:List D.Used} {x y:D.Used} {k:Nat} (h:isLedU l x k) (hy:l[k]? =some y) (hc:QG y x=true):isLedU l x (k+1):=by
 have:=(List.getElem?_eq_some_iff.1 hy).1
 refine ⟨this,fun j hj=> ?_⟩
 by_cases e:j=k
 ·subst e;exact ⟨y,hy,hc⟩
 ·exact h.2 j (by omega)
theorem isSufU.next {l:List D.Used} {x y:D.Used} {k:Nat} (h:isSufU l x k) (h0:0<k) (hy:l[k - 1]? =some y) (hc:QG x y=true):isSufU l x (k - 1):=by
 have:=h.1
 refine ⟨by omega,fun j hj hl=> ?_⟩
 by_cases e:j=k - 1
 ·subst e;exact ⟨y,hy,hc⟩
 ·exact h.2 j (by omega) hl
theorem J6 {l:List D.Used} {x:D.Used} {k:Nat} (h:isLedU l x k) (hk:¬k<l.length):l.take k++x::l.drop k=Z2 l x:=by
 unfold Z2
 rw [J0 h (fun y hy=>absurd (List.getElem?_eq_some_iff.1 hy).1 hk)]
theorem Qbp {l:List D.Used} {x y:D.Used} {k:Nat} (h:isLedU l x k) (hy:l[k]? =some y) (hc:QG y x=false):l.take k++x::l.drop k=Z2 l x:=by
 unfold Z2
 rw [J0 h (fun z hz=>by rw [hy] at hz;cases hz;exact hc)]
theorem J9 {l:List D.Used} {x:D.Used} {k:Nat} (h:isSufU l x k) (hk:¬ 0<k):l.take k++ [x]++l.drop k=Z4 l x:=by
 unfold Z4
 rw [Ji h (fun y hy=>absurd hy hk)]
 simp
theorem Qbh {l:List D.Used} {x y:D.Used} {k:Nat} (h:isSufU l x k) (hy:l[k - 1]? =some y) (hc:QG x y=false):l.take k++ [x]++l.drop k=Z4 l x:=by
 unfold Z4
 rw [Ji h (fun z _ hz=>by rw [hy] at hz;cases hz;exact hc)]
 simp
theorem Qd7 {l:List D.Used} {ws:List ByteArray} (n:Int) (hz:zL Qn l+zL ByteArray.size ws≤2*mx) (i:Nat):(Qh l (ws.take i) n).length+1≤3*mx:=by
 have h1:=Qa7 n (ws.take i) l
 have h2:=Yi (z:=ByteArray.size) ws i
 have h3:=ZL (z:=Qn) (Qh l (ws.take i) n)
 have:mx=1048576:=rfl
 omega
theorem Qd8 {l:List D.Used} {ws:List ByteArray} (n:Int) (hz:zL Qn l+zL ByteArray.size ws≤2*mx) (i:Nat):(Ql l (ws.take i) n).length+1≤3*mx:=by
 have h1:=Qbi n (ws.take i) l
 have h2:=Yi (z:=ByteArray.size) ws i
 have h3:=ZL (z:=Qn) (Ql l (ws.take i) n)
 have:mx=1048576:=rfl
 omega
theorem QD {l:List D.Used} {ws:List ByteArray} (n:Int) (hz:zL Qn l+zL ByteArray.size ws≤2*mx) (i:Nat):zL Qn (Ql l (ws.take i) n)≤2*mx:=by
 have h1:=Qbi n (ws.take i) l
 have h2:=Yi (z:=ByteArray.size) ws i
 omega
theorem Q0 {l:List D.Used} {ws:List ByteArray} (n:Int) (hz:zL Qn l+zL ByteArray.size ws≤2*mx) (i:Nat):zL Qn (Qh l (ws.take i) n)≤2*mx:=by
 have h1:=Qa7 n (ws.take i) l
 have h2:=Yi (z:=ByteArray.size) ws i
 omega
theorem YP {l:List D.Used} {ws:List ByteArray} {n:Int} (h:¬Qc (Ql l ws n)):Qd l ws n=l∧decide (Qc (Qh l ws n))=false:=by
 have h2:¬Qc (Qh l ws n):=fun e=>h (addS_iff.2 e)
 exact ⟨Qal h2,decide_eq_false h2⟩
theorem Yq {l:List D.Used} {ws:List ByteArray} {n:Int} (h:Qc (Ql l ws n)):Qd l ws n=Ql l ws n∧decide (Qc (Qh l ws n))=true:=by
 have h2:Qc (Qh l ws n):=addS_iff.1 h
 exact ⟨(JM h2).trans (QcK h),decide_eq_true h2⟩
theorem Qd1 (l:List D.Used) (ws:List ByteArray) (n:Int):zL Qn (Qd l ws n)≤zL Qn l+zL ByteArray.size ws:=by
 unfold Qd
 split
 ·exact Nat.le_of_eq (Qa7 n ws l)
 ·omega
end
theorem J5 (n:Nat) (l:List D.Used) (ws:List ByteArray) (m:Int) (hz:zL Qn l+zL ByteArray.size ws≤2*mx):Pure (Qt Try.prog (n+4)) 17 [(rd 2 Qa l),(rd 1 Qf ws),(tI m)] (T.tup [(T.sl true 2 ((Qd l ws m).map (Qa true))),(tB (decide (Qc (Qh l ws m))))]):=by
 refine Pure.intro (rs:= [ResultVar.tmp 6,ResultVar.tmp 7]) Try.func17 Y Y Y (E0:= [(0,(rd 2 Qa l)),(1,(rd 1 Qf ws)),(2,(tI m))]) Y ?_
 obtain ⟨hlim,hmx,hmax⟩:=Zi
 have hl:=ZL (z:=Qn) l
 have hlw:=ZL (z:=ByteArray.size) ws
 have hsz:=Qbi m ws l
 refine sr (fO (OF.assign VEv.nils) (fO (OF.assign (VEv.bool false)) (nt (sr (kO (OM.slice0 Zg Zt (by kernel_rfl) Y (by rw [Qu];decide) Qu) (mO (rd 2 Qa l) Y (cO (B.append (rows:= []) (rows2:=(l.map (Qa false))) (rows3:=(l.map (Qa true))) (VDst.own (tv (T.os 2 0 0 0) Y) Y Y) (VSrc.read (tv (rd 2 Qa l) Y) Zg (okeUsed.okMap _ _)) nofun Zg Qu (by decide) Zt Y (of_decide_eq_true (by kernel_rfl)) (by first | exact QD m hz _ | omega | (simp only [List.length_map];omega) | (simp only [List.length_map,List.length_append,List.length_cons,List.length_nil,List.length_replicate,List.length_set,List.length_drop,List.length_take,QS] at *;omega)) (List.nil_append _)) (aO (T.os 2 1 0 ((l.map (Qa true)).length)) Y (nt (sq (sr ?_)))))))))))
 refine fO (OF.assign (VEv.int .i64 0)) (nt (VRun.block ?_))
 have he1:l=Ql l (ws.take 0) m:=by first | rfl | (rw [JI hx1];first | exact Qbh hI' hx2 fhc1 | exact J9 hI' (by assumption)) | (simp;done) | omega
 refine VRun.loop (A:=Nat) (fun s_=> [(0,(rd 2 Qa l)),(1,(rd 1 Qf ws)),(2,(tI m)),(6,T.nils),(7,(tB false)),(8,(T.os 2 0 0 (((Ql l (ws.take s_) m).map (Qa true)).length))),(9,(tN s_))]) (fun s_=>Yy [(0,(Obj.rows 2 ((Ql l (ws.take s_) m).map (Qa true))))]) 1 (fun s_=>s_≤ws.length) (fun s_=>ws.length - s_) (0:Nat) ?_ (Wk.mk (fun k=>if k=0 then 1 else k) ?_ ?_ ?_) ?_
 ·first | trivial | (simp;done) | omega | (constructor<;>simp)
 ·exact (b2 (b2 (b2 (b2 (b2 (bc ⟨(congrArg (fun l_=>T.os 2 1 0 (List.map (Qa true) l_).length) he1),rfl⟩ (b2 bn)))))))
 ·exact (bc ⟨(congrArg (fun l_=>some (Obj.rows 2 (List.map (Qa true) l_))) he1),(lb Y),rfl⟩ bn)
 ·exact nd Y
 rintro i (hI':i≤ws.length)
 show VRun _ _ _ [(0,(rd 2 Qa l)),(1,(rd 1 Qf ws)),(2,(tI m)),(6,T.nils),(7,(tB false)),(8,(T.os 2 0 0 (((Ql l (ws.take i) m).map (Qa true)).length))),(9,(tN i))] (Yy [(0,(Obj.rows 2 ((Ql l (ws.take i) m).map (Qa true))))]) 1 _
 have hI1:=hI'
 have hsl:=Qd8 m hz i
 refine sq (sr (mO (tN i) Y (mO (rd 1 Qf ws) Y (lO (B.lenR (m:=ws.length) (tv (rd 1 Qf ws) Y) U36 (List.length_map ..)) (fO (Yw (tv (tN i) Y) (tv (tN ws.length) Y)) (nt ?_))))))
 refine cd (i<ws.length) Y (fun fhc0=> ?_) fun fhc0=> ?_
 ·refine sk ?_
  refine tn (sq (VRun.block (sr (mO (rd 1 Qf ws) Y (mO (tN i) Y ?_)))))
  obtain ⟨x1,hx1⟩:∃x,ws[i]? =some x:=⟨_,List.getElem?_eq_getElem (by first | exact QD m hz _ | omega)⟩
  refine fO (OF.indexAddrR (row:=(Qf false x1)) (i:=i) (tv (rd 1 Qf ws) Y) (tv (tN i) Y) Y (QE _ hx1) U36 sz9 if9) (lO (OL.loadR1 (t:=(tS x1)) (tv (T.rp [(tS x1)]) Y) Y st9) (mO (tI m) Y (fO (OF.build (l:= [(0,(tS x1)),(1,(tI m))]) (zs:= [(tS ByteArray.empty),(tN 0)]) (out:= [(tS x1),(tI m)]) (VEvp.cons (i:=0) (tv (tS x1) Y) (VEvp.cons (i:=1) (tv (tI m) Y) VEvp.nil)) (bc nofun (bc nofun bn)) Try.underlying58 Zt (fun _=>RL.cons (.str _) (RL.cons (.int _ _) (RL.nil _))) (by kernel_rfl) (by kernel_rfl)) (kO (B.alloc (t:=(T.agg [(tS ByteArray.empty),(tN 0)])) (ts:= [(tS ByteArray.empty),(tN 0)]) Zt QcX nofun (fun _=> .agg _ _ Y (QaG (RL.cons (.str _) (RL.cons (.int _ _) (RL.nil _))))) Y) (cO (B.storeW (us:= [(tS x1),(tI m)]) (tv (T.op 1 0) Y) (tv (T.agg [(tS x1),(tI m)]) Y) nofun Y Y Y Zz Qu (bc Y (bc Y bn))) (nt (sr (mO (T.os 2 0 0 (((Ql l (ws.take i) m).map (Qa true)).length)) Y (lO (B.lenO (m:=(Ql l (ws.take i) m).length) (tv (T.os 2 0 0 (((Ql l (ws.take i) m).map (Qa true)).length)) Y) Zg (List.length_map ..)) (aO (tN ((Ql l (ws.take i) m).length)) Y (nt ?_)))))))))))
  refine sq (VRun.block ?_)
  refine VRun.loop (A:=Nat) (fun s_=> [(0,(rd 2 Qa l)),(1,(rd 1 Qf ws)),(2,(tI m)),(6,T.nils),(7,(tB false)),(8,(T.os 2 0 0 (((Ql l (ws.take i) m).map (Qa true)).length))),(9,(tN i)),(10,(T.op 1 0)),(11,(tN s_))]) (fun s_=>Yy [(0,(Obj.rows 2 ((Ql l (ws.take i) m).map (Qa true)))),(1,(Obj.cells [(tS x1),(tI m)]))]) 2 (fun s_=>isSufU (Ql l (ws.take i) m) (D.Used.mk x1 m) s_) (fun s_=>s_) ((Ql l (ws.take i) m).length:Nat) ?_ (Wk.mk (fun k=>k) ?_ ?_ ?_) ?_
  ·exact ⟨Nat.le_refl _,fun j hj h2=>by omega⟩
  ·exact (b2 (b2 (b2 (b2 (b2 (b2 (b2 (b2 (b2 bn)))))))))
  ·exact (b3 (b3 bn))
  ·exact nd Y
  rintro k (hI':isSufU (Ql l (ws.take i) m) (D.Used.mk x1 m) k)
  show VRun _ _ _ [(0,(rd 2 Qa l)),(1,(rd 1 Qf ws)),(2,(tI m)),(6,T.nils),(7,(tB false)),(8,(T.os 2 0 0 (((Ql l (ws.take i) m).map (Qa true)).length))),(9,(tN i)),(10,(T.op 1 0)),(11,(tN k))] (Yy [(0,(Obj.rows 2 ((Ql l (ws.take i) m).map (Qa true)))),(1,(Obj.cells [(tS x1),(tI m)]))]) 2 _
  have hJ1:=hI'.1
  refine sq (sq (VRun.draw (B:= [[],[0],[0,1],[1,0,2],[1,0,2],[1,0,2],[2,0,1,5],[5,6,2,0,1,4],[4,1,0,2,6,5,7],[7,5,6,4,8,2,0,1,3],[3,8,4,6,5,7,9,1,0,2]]) (by kernel_rfl) (by kernel_rfl) (mD (tN k) Y Y (fD (B.gtr (c:=(decide (0<k))) (tv (tN k) Y) (VEv.int .i64 0) (by first | exact QD m hz _ | (exact ZZ (by omega)))) Y Y (mD (tB (decide (0<k))) Y Y ?_)))))
  refine gw (0<k) (fun fhg31_2=> ?_) fun fhg31_2=> ?_
  ·refine VRunD.look Y (VWant.on Y Y (dy fhg31_2)) Y (OL.loadOn (us:= [(tS x1),(tI m)]) (tv (T.op 1 0) Y) Y YG Qu (lb Y) Y) ?_
   refine VRunD.free Y (VWant.on Y Y (dy fhg31_2)) Y (OF.move (tv (T.os 2 0 0 (((Ql l (ws.take i) m).map (Qa true)).length)) Y)) (VRunD.free Y (VWant.on Y Y (dy fhg31_2)) Y (OF.move (tv (tN k) Y)) (VRunD.free Y (VWant.on Y Y (dy fhg31_2)) Y (B.sub (n:=((k - 1:Nat):Int)) (tv (tN k) Y) (VEv.int .i64 1) (by first | exact QD m hz _ | rfl | (rw [QT (by omega)];omega) | (rw [QT (by omega)];done))) ?_))
   obtain ⟨x2,hx2⟩:∃x,(Ql l (ws.take i) m)[k - 1]? =some x:=⟨_,List.getElem?_eq_getElem (by first | exact QD m hz _ | omega | (simp only [List.length_map];omega) | (simp only [List.length_map,List.length_append,List.length_cons,List.length_nil,List.length_replicate,List.length_set,List.length_drop,List.length_take,QS] at *;omega))⟩
   refine VRunD.free Y (VWant.on Y Y (dy fhg31_2)) Y (B.indexAddrO (i:=k - 1) (tv (T.os 2 0 0 (((Ql l (ws.take i) m).map (Qa true)).length)) Y) (tv (tN (k - 1)) Y) Y (by first | exact QD m hz _ | omega | (simp only [List.length_map];omega) | (simp only [List.length_map,List.length_append,List.length_cons,List.length_nil,List.length_replicate,List.length_set,List.length_drop,List.length_take,QS] at *;omega)) Zg Qu Zz) (VRunD.look Y (VWant.on Y Y (dy fhg31_2)) Y (OL.loadPn (us:=(Qa false x2)) (row:=(Qa true x2)) (tv (T.orp 2 0 (k - 1) 0) Y) Y (QE _ hx2) YG Qu (lb Y) Y (bc Y (bc Y bn))) (VRunD.quiet (bi:= [7,5,6,4,8,2,0,1,3]) Y (VWant.on Y Y (dy fhg31_2)) Y Y Y bn (cS (us:= [(T.agg [(tS x1),(tI m)]),(T.agg (Qa false x2))]) (vc (tv (T.agg [(tS x1),(tI m)]) Y) (vc (tv (T.agg (Qa false x2)) Y) vn)) (LendL.cons (Lend.agg (LendL.cons (Lend.pl Y) (LendL.cons (Lend.pl Y) ln))) (LendL.cons (lg okeUsed) ln)) (Yb (n+1) (D.Used.mk x1 m) x2) Y Y) (fD (OF.pickT (VEv.tmpB Y (dy fhg31_2)) (tv (tB (QG (D.Used.mk x1 m) x2)) Y)) Y Y (VRunD.nil (tn ?_)))))
   refine VRun.cond (tv (tB (QG (D.Used.mk x1 m) x2)) Y) (fun hc1=> ?_) (fun hc1=> ?_)
   ·have fhc1:(QG (D.Used.mk x1 m) x2)=true:=hc1
    refine sk (tn (VRun.block (VRun.region (mO (tN k) Y (fO (B.sub (n:=((k - 1:Nat):Int)) (tv (tN k) Y) (VEv.int .i64 1) (by first | exact QD m hz _ | rfl | (rw [QT (by omega)];omega) | (rw [QT (by omega)];done))) (aO (tN (k - 1)) Y (VRunO.nil (vinB.n (tn ?_)))))))))
    refine ⟨(k - 1:Nat),?_,?_,Wk.mk (fun k=>k) ?_ ?_ ?_⟩
    ·exact hI'.next (by omega) hx2 (by assumption)
    ·first | omega | (simp only [];omega) | (show _<_;omega) | (simp;omega)
    ·exact (b2 (b2 (b2 (b2 (b2 (b2 (b2 (b2 (b2 bn)))))))))
    ·exact (b3 (b3 bn))
    ·exact nd Y
   have fhc1:(QG (D.Used.mk x1 m) x2)=false:=hc1
   refine VRun.exit (vthn.e (vthn.e (vinB.e (tn (VRun.wk (Wk.freeze (sz:=2) (k:=0) (rows':=((Ql l (ws.take i) m).map (Qa false))) [8,33] (bc Y (bc Y bn)) Y Y (okeUsed.fzMap _ _)) (VRun.draw (B:= [[],[],[],[2,1],[1,2,3,0],[],[5],[5,6,0,3,2,1,4],[],[],[9,8],[8,9,10,4,1,2,3,0,6,5,7],[7,5,6,0,3,2,1,4,10,9,8,11]]) (by kernel_rfl) (by kernel_rfl) (VRunD.make Y VWant.always Y (OM.slice0 Zg Zt (by kernel_rfl) Y (by rw [Qu];decide) Qu) (mD (rd 2 Qa (Ql l (ws.take i) m)) Y Y (mD (tN k) Y Y ?_)))))))))
   refine lD (show OL _ _ _ _ _ (T.sl false 2 (((Ql l (ws.take i) m).take k).map (Qa false))) by rw [show ((Ql l (ws.take i) m).take k).map (Qa false)=((Ql l (ws.take i) m).map (Qa false)).take k from List.map_take ..];exact (OL.sliceRHi (j:=k) (tv (rd 2 Qa (Ql l (ws.take i) m)) Y) (tv (tN k) Y) Y (by first | exact QD m hz _ | omega | (simp only [List.length_map];omega) | (simp only [List.length_map,List.length_append,List.length_cons,List.length_nil,List.length_replicate,List.length_set,List.length_drop,List.length_take,QS] at *;omega)) Zg Qu Zz)) Y Y (VRunD.quiet (bi:= [1,2,3,0]) Y VWant.always Y Y Y (bc (lb Y) bn) (B.append (rows:= []) (rows2:=(((Ql l (ws.take i) m).take k).map (Qa false))) (rows3:=(((Ql l (ws.take i) m).take k).map (Qa true))) (VDst.own (tv (T.os 2 2 0 0) Y) Y Y) (VSrc.read (tv (rd 2 Qa ((Ql l (ws.take i) m).take k)) Y) Zg (okeUsed.okMap _ _)) nofun Zg Qu (by decide) Zt Y (of_decide_eq_true (by kernel_rfl)) (by first | exact QD m hz _ | omega | (simp only [List.length_map];omega) | (simp only [List.length_map,List.length_append,List.length_cons,List.length_nil,List.length_replicate,List.length_set,List.length_drop,List.length_take,QS] at *;omega)) (List.nil_append _)) (lD (OL.loadOn (us:= [(tS x1),(tI m)]) (tv (T.op 1 0) Y) Y YG Qu (lb Y) Y) Y Y (VRunD.make Y VWant.always Y (OM.buildSlice (l:= [(T.agg [(tS x1),(tI m)])]) (VEvp.cons (tv (T.agg [(tS x1),(tI m)]) Y) VEvp.nil) Y (by decide) (bc (nofun) bn) (bc ((bc (Y) (bc (Y) bn))) bn) (bc (Y) bn) Zg Zt (by kernel_rfl) Y (by rw [Qu];decide) Qu (Nat.le_of_ble_eq_true Y)) (VRunD.quiet (bi:= [5,6,0,3,2,1,4]) Y VWant.always Y Y Y (bc (lb Y) (bc (lb Y) bn)) (B.append (rows:=(((Ql l (ws.take i) m).take k).map (Qa true))) (rows2:= [[(tS x1),(tI m)]]) (rows3:=((((Ql l (ws.take i) m).take k)++ [(D.Used.mk x1 m)]).map (Qa true))) (VDst.own (tv (T.os 2 3 0 ((((Ql l (ws.take i) m).take k).map (Qa true)).length)) Y) Y Y) (VSrc.own (tv (T.os 2 4 0 1) Y) Y Y Zg (bc (bc Y (bc Y bn)) bn)) (by decide) Zg Qu (by decide) Zt Y (of_decide_eq_true (by kernel_rfl)) (by first | exact QD m hz _ | omega | (simp only [List.length_map];omega) | (simp only [List.length_map,List.length_append,List.length_cons,List.length_nil,List.length_replicate,List.length_set,List.length_drop,List.length_take,QS] at *;omega)) ((List.map_append (f:=Qa true) (l₁:=((Ql l (ws.take i) m).take k)) (l₂:= [(D.Used.mk x1 m)])).symm)) (mD (rd 2 Qa (Ql l (ws.take i) m)) Y Y (mD (tN k) Y Y ?_))))))
   refine lD (show OL _ _ _ _ _ (T.sl false 2 (((Ql l (ws.take i) m).drop k).map (Qa false))) by rw [show ((Ql l (ws.take i) m).drop k).map (Qa false)=((Ql l (ws.take i) m).map (Qa false)).drop k from List.map_drop ..];exact (OL.sliceRLo (i:=k) (tv (rd 2 Qa (Ql l (ws.take i) m)) Y) (tv (tN k) Y) Y (by first | exact QD m hz _ | omega | (simp only [List.length_map];omega) | (simp only [List.length_map,List.length_append,List.length_cons,List.length_nil,List.length_replicate,List.length_set,List.length_drop,List.length_take,QS] at *;omega)) Zg Qu Zz)) Y Y (VRunD.quiet (bi:= [8,9,10,4,1,2,3,0,6,5,7]) Y VWant.always Y Y Y (bc (lb Y) bn) (B.append (rows:=((((Ql l (ws.take i) m).take k)++ [(D.Used.mk x1 m)]).map (Qa true))) (rows2:=(((Ql l (ws.take i) m).drop k).map (Qa false))) (rows3:=(((((Ql l (ws.take i) m).take k)++ [(D.Used.mk x1 m)])++((Ql l (ws.take i) m).drop k)).map (Qa true))) (VDst.own (tv (T.os 2 5 0 (((((Ql l (ws.take i) m).take k)++ [(D.Used.mk x1 m)]).map (Qa true)).length)) Y) Y Y) (VSrc.read (tv (rd 2 Qa ((Ql l (ws.take i) m).drop k)) Y) Zg (okeUsed.okMap _ _)) nofun Zg Qu (by decide) Zt Y (of_decide_eq_true (by kernel_rfl)) (by first | exact QD m hz _ | omega | (simp only [List.length_map];omega) | (simp only [List.length_map,List.length_append,List.length_cons,List.length_nil,List.length_replicate,List.length_set,List.length_drop,List.length_take,QS] at *;omega)) ((List.map_append (f:=Qa true) (l₁:=(((Ql l (ws.take i) m).take k)++ [(D.Used.mk x1 m)])) (l₂:=((Ql l (ws.take i) m).drop k))).symm)) (fD (OF.assign (tv (T.os 2 6 0 ((((((Ql l (ws.take i) m).take k)++ [(D.Used.mk x1 m)])++((Ql l (ws.take i) m).drop k)).map (Qa true)).length)) Y)) Y Y (VRunD.nil (vinB.n (tn (VRun.region (mO (tN i) Y (fO (Zu (tv (tN i) Y) (VEv.int .i64 1) (by first | exact QD m hz _ | omega)) (aO (tN (i+1)) Y (VRunO.nil (tn ?_)))))))))))
   have he3:((((Ql l (ws.take i) m).take k)++ [(D.Used.mk x1 m)])++((Ql l (ws.take i) m).drop k))=Ql l (ws.take (i+1)) m:=by first | rfl | (rw [JI hx1];first | exact Qbh hI' hx2 fhc1 | exact J9 hI' (by assumption)) | (simp;done) | omega
   refine ⟨(i+1:Nat),?_,?_,Wk.mk (fun k=>if k=0 then 6 else k) ?_ ?_ ?_⟩
   ·first | trivial | omega | (simp;done) | exact ⟨by omega,hI'.2⟩
   ·first | omega | (simp only [];omega) | (show _<_;omega) | (simp;omega)
   ·exact (b2 (b2 (b2 (b2 (b2 (bc ⟨(congrArg (fun l_=>T.os 2 6 0 (List.map (Qa true) l_).length) he3),rfl⟩ (b2 bn)))))))
   ·exact (bc ⟨(congrArg (fun l_=>some (Obj.rows 2 (List.map (Qa true) l_))) he3),(lb Y),rfl⟩ bn)
   ·exact nd Y
  refine oD Y Y (dz fhg31_2) Y (oD Y Y (dz fhg31_2) Y (oD Y Y (dz fhg31_2) Y (oD Y Y (dz fhg31_2) Y (oD Y Y (dz fhg31_2) Y (oD Y Y (dz fhg31_2) Y (oD Y Y (dz fhg31_2) Y (fD (OF.pickF (VEv.tmpB Y (dz fhg31_2)) (VEv.bool false)) Y Y (VRunD.nil (tn (cf Y (VRun.exit ?_)))))))))))
  refine vthn.e (vthn.e (vinB.e (tn (VRun.wk (Wk.freeze (sz:=2) (k:=0) (rows':=((Ql l (ws.take i) m).map (Qa false))) [8] (bc Y bn) Y Y (okeUsed.fzMap _ _)) (VRun.draw (B:= [[],[],[],[2,1],[1,2,3,0],[],[5],[5,6,0,3,2,1,4],[],[],[9,8],[8,9,10,4,1,2,3,0,6,5,7],[7,5,6,0,3,2,1,4,10,9,8,11]]) (by kernel_rfl) (by kernel_rfl) (VRunD.make Y VWant.always Y (OM.slice0 Zg Zt (by kernel_rfl) Y (by rw [Qu];decide) Qu) (mD (rd 2 Qa (Ql l (ws.take i) m)) Y Y (mD (tN k) Y Y ?_))))))))
  refine lD (show OL _ _ _ _ _ (T.sl false 2 (((Ql l (ws.take i) m).take k).map (Qa false))) by rw [show ((Ql l (ws.take i) m).take k).map (Qa false)=((Ql l (ws.take i) m).map (Qa false)).take k from List.map_take ..];exact (OL.sliceRHi (j:=k) (tv (rd 2 Qa (Ql l (ws.take i) m)) Y) (tv (tN k) Y) Y (by first | exact QD m hz _ | omega | (simp only [List.length_map];omega) | (simp only [List.length_map,List.length_append,List.length_cons,List.length_nil,List.length_replicate,List.length_set,List.length_drop,List.length_take,QS] at *;omega)) Zg Qu Zz)) Y Y (VRunD.quiet (bi:= [1,2,3,0]) Y VWant.always Y Y Y (bc (lb Y) bn) (B.append (rows:= []) (rows2:=(((Ql l (ws.take i) m).take k).map (Qa false))) (rows3:=(((Ql l (ws.take i) m).take k).map (Qa true))) (VDst.own (tv (T.os 2 2 0 0) Y) Y Y) (VSrc.read (tv (rd 2 Qa ((Ql l (ws.take i) m).take k)) Y) Zg (okeUsed.okMap _ _)) nofun Zg Qu (by decide) Zt Y (of_decide_eq_true (by kernel_rfl)) (by first | exact QD m hz _ | omega | (simp only [List.length_map];omega) | (simp only [List.length_map,List.length_append,List.length_cons,List.length_nil,List.length_replicate,List.length_set,List.length_drop,List.length_take,QS] at *;omega)) (List.nil_append _)) (lD (OL.loadOn (us:= [(tS x1),(tI m)]) (tv (T.op 1 0) Y) Y YG Qu (lb Y) Y) Y Y (VRunD.make Y VWant.always Y (OM.buildSlice (l:= [(T.agg [(tS x1),(tI m)])]) (VEvp.cons (tv (T.agg [(tS x1),(tI m)]) Y) VEvp.nil) Y (by decide) (bc (nofun) bn) (bc ((bc (Y) (bc (Y) bn))) bn) (bc (Y) bn) Zg Zt (by kernel_rfl) Y (by rw [Qu];decide) Qu (Nat.le_of_ble_eq_true Y)) (VRunD.quiet (bi:= [5,6,0,3,2,1,4]) Y VWant.always Y Y Y (bc (lb Y) (bc (lb Y) bn)) (B.append (rows:=(((Ql l (ws.take i) m).take k).map (Qa true))) (rows2:= [[(tS x1),(tI m)]]) (rows3:=((((Ql l (ws.take i) m).take k)++ [(D.Used.mk x1 m)]).map (Qa true))) (VDst.own (tv (T.os 2 3 0 ((((Ql l (ws.take i) m).take k).map (Qa true)).length)) Y) Y Y) (VSrc.own (tv (T.os 2 4 0 1) Y) Y Y Zg (bc (bc Y (bc Y bn)) bn)) (by decide) Zg Qu (by decide) Zt Y (of_decide_eq_true (by kernel_rfl)) (by first | exact QD m hz _ | omega | (simp only [List.length_map];omega) | (simp only [List.length_map,List.length_append,List.length_cons,List.length_nil,List.length_replicate,List.length_set,List.length_drop,List.length_take,QS] at *;omega)) ((List.map_append (f:=Qa true) (l₁:=((Ql l (ws.take i) m).take k)) (l₂:= [(D.Used.mk x1 m)])).symm)) (mD (rd 2 Qa (Ql l (ws.take i) m)) Y Y (mD (tN k) Y Y ?_))))))
  refine lD (show OL _ _ _ _ _ (T.sl false 2 (((Ql l (ws.take i) m).drop k).map (Qa false))) by rw [show ((Ql l (ws.take i) m).drop k).map (Qa false)=((Ql l (ws.take i) m).map (Qa false)).drop k from List.map_drop ..];exact (OL.sliceRLo (i:=k) (tv (rd 2 Qa (Ql l (ws.take i) m)) Y) (tv (tN k) Y) Y (by first | exact QD m hz _ | omega | (simp only [List.length_map];omega) | (simp only [List.length_map,List.length_append,List.length_cons,List.length_nil,List.length_replicate,List.length_set,List.length_drop,List.length_take,QS] at *;omega)) Zg Qu Zz)) Y Y (VRunD.quiet (bi:= [8,9,10,4,1,2,3,0,6,5,7]) Y VWant.always Y Y Y (bc (lb Y) bn) (B.append (rows:=((((Ql l (ws.take i) m).take k)++ [(D.Used.mk x1 m)]).map (Qa true))) (rows2:=(((Ql l (ws.take i) m).drop k).map (Qa false))) (rows3:=(((((Ql l (ws.take i) m).take k)++ [(D.Used.mk x1 m)])++((Ql l (ws.take i) m).drop k)).map (Qa true))) (VDst.own (tv (T.os 2 5 0 (((((Ql l (ws.take i) m).take k)++ [(D.Used.mk x1 m)]).map (Qa true)).length)) Y) Y Y) (VSrc.read (tv (rd 2 Qa ((Ql l (ws.take i) m).drop k)) Y) Zg (okeUsed.okMap _ _)) nofun Zg Qu (by decide) Zt Y (of_decide_eq_true (by kernel_rfl)) (by first | exact QD m hz _ | omega | (simp only [List.length_map];omega) | (simp only [List.length_map,List.length_append,List.length_cons,List.length_nil,List.length_replicate,List.length_set,List.length_drop,List.length_take,QS] at *;omega)) ((List.map_append (f:=Qa true) (l₁:=(((Ql l (ws.take i) m).take k)++ [(D.Used.mk x1 m)])) (l₂:=((Ql l (ws.take i) m).drop k))).symm)) (fD (OF.assign (tv (T.os 2 6 0 ((((((Ql l (ws.take i) m).take k)++ [(D.Used.mk x1 m)])++((Ql l (ws.take i) m).drop k)).map (Qa true)).length)) Y)) Y Y (VRunD.nil (vinB.n (tn (VRun.region (mO (tN i) Y (fO (Zu (tv (tN i) Y) (VEv.int .i64 1) (by first | exact QD m hz _ | omega)) (aO (tN (i+1)) Y (VRunO.nil (tn ?_)))))))))))
  have he4:((((Ql l (ws.take i) m).take k)++ [(D.Used.mk x1 m)])++((Ql l (ws.take i) m).drop k))=Ql l (ws.take (i+1)) m:=by first | rfl | (rw [JI hx1];first | exact Qbh hI' hx2 fhc1 | exact J9 hI' (by assumption)) | (simp;done) | omega
  refine ⟨(i+1:Nat),?_,?_,Wk.mk (fun k=>if k=0 then 6 else k) ?_ ?_ ?_⟩
  ·first | trivial | omega | (simp;done) | exact ⟨by omega,hI'.2⟩
  ·first | omega | (simp only [];omega) | (show _<_;omega) | (simp;omega)
  ·exact (b2 (b2 (b2 (b2 (b2 (bc ⟨(congrArg (fun l_=>T.os 2 6 0 (List.map (Qa true) l_).length) he4),rfl⟩ (b2 bn)))))))
  ·exact (bc ⟨(congrArg (fun l_=>some (Obj.rows 2 (List.map (Qa true) l_))) he4),(lb Y),rfl⟩ bn)
  ·exact nd Y
 refine VRun.exit (vthn.e (vthn.e (vinB.e (tn (sq (sr (mO (T.os 2 0 0 (((Ql l (ws.take i) m).map (Qa true)).length)) Y (cO (cS (us:= [(rd 2 Qa (Ql l (ws.take i) m))]) (vc (tv (T.os 2 0 0 (((Ql l (ws.take i) m).map (Qa true)).length)) Y) vn) (LendL.cons (Lend.os Y Y (okeUsed.fzMap _ _)) ln) (Qat (n+0) (Ql l (ws.take i) m) (by first | exact QD m hz _ | assumption | omega)) Y Y) (fO (Yl (tv (tB (decide (Qc (Ql l (ws.take i) m)))) Y)) (nt ?_))))))))))
 refine cn (Qc (Ql l (ws.take i) m)) Y (fun fhc2=> ?_) fun fhc2=> ?_
 ·refine sr ?_
  refine kO (OM.slice0 Zg Zt (by kernel_rfl) Y (by rw [Qu];decide) Qu) (mO (rd 2 Qa l) Y (cO (B.append (rows:= []) (rows2:=(l.map (Qa false))) (rows3:=(l.map (Qa true))) (VDst.own (tv (T.os 2 1 0 0) Y) Y Y) (VSrc.read (tv (rd 2 Qa l) Y) Zg (okeUsed.okMap _ _)) nofun Zg Qu (by decide) Zt Y (of_decide_eq_true (by kernel_rfl)) (by first | exact QD m hz _ | omega | (simp only [List.length_map];omega) | (simp only [List.length_map,List.length_append,List.length_cons,List.length_nil,List.length_replicate,List.length_set,List.length_drop,List.length_take,QS] at *;omega)) (List.nil_append _)) (aO (T.os 2 2 0 ((l.map (Qa true)).length)) Y (fO (OF.assign (VEv.bool false)) (nt (rt (tr ?_)))))))
  refine vfin.eq (r':=(T.tup [(T.sl true 2 (l.map (Qa true))),(tB false)])) ?_ (vfin.r (VRes.tmp (t:=(T.os 2 2 0 ((l.map (Qa true)).length))) Y (VRes.tmp (t:=(tB false)) Y VRes.nil)) (Give.tup (GiveL.cons (Give.os Y Y (okeUsed.cleanMap _)) (GiveL.cons (Give.bool _) GiveL.nil (by decide)) (by decide))))
  have htk:ws.take i=ws:=List.take_of_length_le (by omega)
  rw [htk] at fhc2
  try rw [htk]
  first | (rw [(YP fhc2).1,(YP fhc2).2]) | (rw [(Yq fhc2).1,(Yq fhc2).2])
 refine sk (tn (sr (mO (T.os 2 0 0 (((Ql l (ws.take i) m).map (Qa true)).length)) Y (aO (T.os 2 0 0 (((Ql l (ws.take i) m).map (Qa true)).length)) Y (fO (OF.assign (VEv.bool true)) (nt (rt ?_)))))))
 refine vfin.eq (r':=(T.tup [(T.sl true 2 ((Ql l (ws.take i) m).map (Qa true))),(tB true)])) ?_ (vfin.r (VRes.tmp (t:=(T.os 2 0 0 (((Ql l (ws.take i) m).map (Qa true)).length))) Y (VRes.tmp (t:=(tB true)) Y VRes.nil)) (Give.tup (GiveL.cons (Give.os Y Y (okeUsed.cleanMap _)) (GiveL.cons (Give.bool _) GiveL.nil (by decide)) (by decide))))
 have htk:ws.take i=ws:=List.take_of_length_le (by omega)
 rw [htk] at fhc2
 try rw [htk]
 first | (rw [(YP fhc2).1,(YP fhc2).2]) | (rw [(Yq fhc2).1,(Yq fhc2).2])
theorem YI (n:Nat) (l:List D.Used) (ws:List ByteArray) (m:Int) (hz:zL Qn l+zL ByteArray.size ws≤2*mx):Pure (Qt Try.prog (n+4)) 20 [(rd 2 Qa l),(rd 1 Qf ws),(tI m)] (T.tup [(T.sl true 2 ((Qd l ws m).map (Qa true))),(tB (decide (Qc (Qh l ws m))))]):=by
 refine Pure.intro (rs:= [ResultVar.tmp 6,ResultVar.tmp 7]) Try.func20 Y Y Y (E0:= [(0,(rd 2 Qa l)),(1,(rd 1 Qf ws)),(2,(tI m))]) Y ?_
 obtain ⟨hlim,hmx,hmax⟩:=Zi
 have hl:=ZL (z:=Qn) l
 have hlw:=ZL (z:=ByteArray.size) ws
 refine sr (fO (OF.assign VEv.nils) (fO (OF.assign (VEv.bool false)) (nt (sr (mO (rd 2 Qa l) Y (cO (OC.callF (r':=(T.os 2 0 0 ((l.map (Qa true)).length))) (objs:= [(Obj.rows 2 (l.map (Qa true)))]) Y (vc (tv (rd 2 Qa l) Y) vn) (JF Y) (QH (n+2) l (by first | exact Q0 m hz _ | assumption | omega)) Y) (aO (T.os 2 0 0 ((l.map (Qa true)).length)) Y (nt (sq (sr (mO (rd 1 Qf ws) Y ?_)))))))))))
 refine lO (B.lenR (m:=ws.length) (tv (rd 1 Qf ws) Y) U36 (List.length_map ..)) (fO (OF.move (VEv.int .i64 0)) (nt (VRun.block ?_)))
 have he1:l=Qh l (ws.take 0) m:=by first | rfl | (rw [JE hx1];first | exact Qbp hI' hx2 fhc1 | exact J6 hI' (by omega)) | (simp;done) | omega
 refine VRun.loop (A:=Nat) (fun s_=> [(0,(rd 2 Qa l)),(2,(tI m)),(6,T.nils),(7,(tB false)),(8,(T.os 2 0 0 (((Qh l (ws.take s_) m).map (Qa true)).length))),(15,(rd 1 Qf ws)),(16,(tN ws.length)),(17,(tN s_))]) (fun s_=>Yy [(0,(Obj.rows 2 ((Qh l (ws.take s_) m).map (Qa true))))]) 1 (fun s_=>s_≤ws.length) (fun s_=>ws.length - s_) (0:Nat) ?_ (Wk.mk (fun k=>k) ?_ ?_ ?_) ?_
 ·first | trivial | (simp;done) | omega | (constructor<;>simp)
 ·exact (b2 (b2 (b2 (b2 (bc ⟨(congrArg (fun l_=>T.os 2 0 0 (List.map (Qa true) l_).length) he1),rfl⟩ (b2 (b2 (b2 bn))))))))
 ·exact (bc ⟨(congrArg (fun l_=>some (Obj.rows 2 (List.map (Qa true) l_))) he1),(lb Y),rfl⟩ bn)
 ·exact nd Y
 rintro i (hI':i≤ws.length)
 show VRun _ _ _ [(0,(rd 2 Qa l)),(2,(tI m)),(6,T.nils),(7,(tB false)),(8,(T.os 2 0 0 (((Qh l (ws.take i) m).map (Qa true)).length))),(15,(rd 1 Qf ws)),(16,(tN ws.length)),(17,(tN i))] (Yy [(0,(Obj.rows 2 ((Qh l (ws.take i) m).map (Qa true))))]) 1 _
 have hI1:=hI'
 have hsl:=Qd7 m hz i
 refine sr (fO (Yw (tv (tN i) Y) (tv (tN ws.length) Y)) (nt (sq ?_)))
 refine cd (i<ws.length) Y (fun fhc0=> ?_) fun fhc0=> ?_
 ·refine sk ?_
  refine tn (sq (VRun.block (sr ?_)))
  obtain ⟨x1,hx1⟩:∃x,ws[i]? =some x:=⟨_,List.getElem?_eq_getElem (by first | exact Q0 m hz _ | omega)⟩
  refine fO (OF.indexAddrR (row:=(Qf false x1)) (i:=i) (tv (rd 1 Qf ws) Y) (tv (tN i) Y) Y (QE _ hx1) U36 sz9 if9) (lO (OL.loadR1 (t:=(tS x1)) (tv (T.rp [(tS x1)]) Y) Y st9) (aO (tS x1) Y (nt (sr (mO (tS x1) Y (mO (tI m) Y (fO (OF.build (l:= [(0,(tS x1)),(1,(tI m))]) (zs:= [(tS ByteArray.empty),(tN 0)]) (out:= [(tS x1),(tI m)]) (VEvp.cons (i:=0) (tv (tS x1) Y) (VEvp.cons (i:=1) (tv (tI m) Y) VEvp.nil)) (bc nofun (bc nofun bn)) Try.underlying58 Zt (fun _=>RL.cons (.str _) (RL.cons (.int _ _) (RL.nil _))) (by kernel_rfl) (by kernel_rfl)) (kO (B.alloc (t:=(T.agg [(tS ByteArray.empty),(tN 0)])) (ts:= [(tS ByteArray.empty),(tN 0)]) Zt QcX nofun (fun _=> .agg _ _ Y (QaG (RL.cons (.str _) (RL.cons (.int _ _) (RL.nil _))))) Y) (cO (B.storeW (us:= [(tS x1),(tI m)]) (tv (T.op 1 0) Y) (tv (T.agg [(tS x1),(tI m)]) Y) nofun Y Y Y Zz Qu (bc Y (bc Y bn))) (nt (sr ?_)))))))))))
  refine fO (OF.assign (VEv.int .i64 0)) (nt (sq (VRun.block ?_)))
  refine VRun.loop (A:=Nat) (fun s_=> [(0,(rd 2 Qa l)),(2,(tI m)),(6,T.nils),(7,(tB false)),(8,(T.os 2 0 0 (((Qh l (ws.take i) m).map (Qa true)).length))),(11,(T.op 1 0)),(12,(tN s_)),(15,(rd 1 Qf ws)),(16,(tN ws.length)),(17,(tN i))]) (fun s_=>Yy [(0,(Obj.rows 2 ((Qh l (ws.take i) m).map (Qa true)))),(1,(Obj.cells [(tS x1),(tI m)]))]) 2 (fun s_=>isLedU (Qh l (ws.take i) m) (D.Used.mk x1 m) s_) (fun s_=>(Qh l (ws.take i) m).length - s_) (0:Nat) ?_ (Wk.mk (fun k=>k) ?_ ?_ ?_) ?_
  ·exact ⟨Nat.zero_le _,fun j hj=>by omega⟩
  ·exact (b2 (b2 (b2 (b2 (b2 (b2 (b2 (b2 (b2 (b2 bn))))))))))
  ·exact (b3 (b3 bn))
  ·exact nd Y
  rintro k (hI':isLedU (Qh l (ws.take i) m) (D.Used.mk x1 m) k)
  show VRun _ _ _ [(0,(rd 2 Qa l)),(2,(tI m)),(6,T.nils),(7,(tB false)),(8,(T.os 2 0 0 (((Qh l (ws.take i) m).map (Qa true)).length))),(11,(T.op 1 0)),(12,(tN k)),(15,(rd 1 Qf ws)),(16,(tN ws.length)),(17,(tN i))] (Yy [(0,(Obj.rows 2 ((Qh l (ws.take i) m).map (Qa true)))),(1,(Obj.cells [(tS x1),(tI m)]))]) 2 _
  have hJ1:=hI'.1
  refine sq (sq (VRun.draw (B:= [[],[],[1],[1,2,0],[0,2,1,3],[3,1,2,0,4],[3,1,2,0,4],[6,4,0,2,1,3,5],[5,3,1,2,0,4,6,7],[3,1,2,0,4],[9,7,6,4,0,2,1,3,5,8],[8,5,6,7,9,10,3,1,2,0,4]]) (by kernel_rfl) (by kernel_rfl) (mD (tN k) Y Y (mD (T.os 2 0 0 (((Qh l (ws.take i) m).map (Qa true)).length)) Y Y (lD (B.lenO (m:=(Qh l (ws.take i) m).length) (tv (T.os 2 0 0 (((Qh l (ws.take i) m).map (Qa true)).length)) Y) Zg (List.length_map ..)) Y Y (fD (Yw (tv (tN k) Y) (tv (tN ((Qh l (ws.take i) m).length)) Y)) Y Y (mD (tB (decide (k<(Qh l (ws.take i) m).length))) Y Y ?_)))))))
  refine gw (k<(Qh l (ws.take i) m).length) (fun fhg28_2=> ?_) fun fhg28_2=> ?_
  ·refine VRunD.free Y (VWant.on Y Y (dy fhg28_2)) Y (OF.move (tv (T.os 2 0 0 (((Qh l (ws.take i) m).map (Qa true)).length)) Y)) ?_
   refine VRunD.free Y (VWant.on Y Y (dy fhg28_2)) Y (OF.move (tv (tN k) Y)) ?_
   obtain ⟨x2,hx2⟩:∃x,(Qh l (ws.take i) m)[k]? =some x:=⟨_,List.getElem?_eq_getElem (by first | exact Q0 m hz _ | omega | (simp only [List.length_map];omega) | (simp only [List.length_map,List.length_append,List.length_cons,List.length_nil,List.length_replicate,List.length_set,List.length_drop,List.length_take,QS] at *;omega))⟩
   refine VRunD.free Y (VWant.on Y Y (dy fhg28_2)) Y (B.indexAddrO (i:=k) (tv (T.os 2 0 0 (((Qh l (ws.take i) m).map (Qa true)).length)) Y) (tv (tN k) Y) Y (by first | exact Q0 m hz _ | omega | (simp only [List.length_map];omega) | (simp only [List.length_map,List.length_append,List.length_cons,List.length_nil,List.length_replicate,List.length_set,List.length_drop,List.length_take,QS] at *;omega)) Zg Qu Zz) (VRunD.look Y (VWant.on Y Y (dy fhg28_2)) Y (OL.loadPn (us:=(Qa false x2)) (row:=(Qa true x2)) (tv (T.orp 2 0 k 0) Y) Y (QE _ hx2) YG Qu (lb Y) Y (bc Y (bc Y bn))) (VRunD.look Y (VWant.on Y Y (dy fhg28_2)) Y (OL.loadOn (us:= [(tS x1),(tI m)]) (tv (T.op 1 0) Y) Y YG Qu (lb Y) Y) (VRunD.quiet (bi:= [9,7,6,4,0,2,1,3,5,8]) Y (VWant.on Y Y (dy fhg28_2)) Y Y Y bn (cS (us:= [(T.agg (Qa false x2)),(T.agg [(tS x1),(tI m)])]) (vc (tv (T.agg (Qa false x2)) Y) (vc (tv (T.agg [(tS x1),(tI m)]) Y) vn)) (LendL.cons (lg okeUsed) (LendL.cons (Lend.agg (LendL.cons (Lend.pl Y) (LendL.cons (Lend.pl Y) ln))) ln)) (Z9 (n+1) x2 (D.Used.mk x1 m)) Y Y) (fD (OF.pickT (VEv.tmpB Y (dy fhg28_2)) (tv (tB (QG x2 (D.Used.mk x1 m))) Y)) Y Y (VRunD.nil (tn ?_))))))
   refine VRun.cond (tv (tB (QG x2 (D.Used.mk x1 m))) Y) (fun hc1=> ?_) (fun hc1=> ?_)
   ·have fhc1:(QG x2 (D.Used.mk x1 m))=true:=hc1
    refine sk (tn (VRun.block (VRun.region (mO (tN k) Y (fO (Zu (tv (tN k) Y) (VEv.int .i64 1) (by first | exact Q0 m hz _ | omega)) (aO (tN (k+1)) Y (VRunO.nil (vinB.n (tn ?_)))))))))
    refine ⟨(k+1:Nat),?_,?_,Wk.mk (fun k=>k) ?_ ?_ ?_⟩
    ·exact hI'.next hx2 (by assumption)
    ·first | omega | (simp only [];omega) | (show _<_;omega) | (simp;omega)
    ·exact (b2 (b2 (b2 (b2 (b2 (b2 (b2 (b2 (b2 (b2 bn))))))))))
    ·exact (b3 (b3 bn))
    ·exact nd Y
   have fhc1:(QG x2 (D.Used.mk x1 m))=false:=hc1
   refine VRun.exit (vthn.e (vthn.e (vinB.e (tn (VRun.region (mO (T.os 2 0 0 (((Qh l (ws.take i) m).map (Qa true)).length)) Y (mO (tN k) Y (lO (OL.loadOn (us:= [(tS x1),(tI m)]) (tv (T.op 1 0) Y) Y YG Qu (lb Y) Y) (kO (OM.buildSlice (l:= [(T.agg [(tS x1),(tI m)])]) (VEvp.cons (tv (T.agg [(tS x1),(tI m)]) Y) VEvp.nil) Y (by decide) (bc (nofun) bn) (bc ((bc (Y) (bc (Y) bn))) bn) (bc (Y) bn) Zg Zt (by kernel_rfl) Y (by rw [Qu];decide) Qu (Nat.le_of_ble_eq_true Y)) (cO (B.insert (rows:=((Qh l (ws.take i) m).map (Qa true))) (r:= [(tS x1),(tI m)]) (rows3:=(((Qh l (ws.take i) m).take k++(D.Used.mk x1 m)::(Qh l (ws.take i) m).drop k).map (Qa true))) (i:=k) Y Y Y (VDst.own (tv (T.os 2 0 0 (((Qh l (ws.take i) m).map (Qa true)).length)) Y) Y Y) (tv (tN k) Y) Y (VDst.own (tv (T.os 2 2 0 1) Y) Y Y) (by decide) (Ys (fun _=>rfl) _) (bc (bc Y (bc Y bn)) bn) (okeUsed.okMap _ _) (bc Y (bc Y bn)) (by decide) (by decide) (by first | exact Q0 m hz _ | omega | (simp only [List.length_map];omega) | (simp only [List.length_map,List.length_append,List.length_cons,List.length_nil,List.length_replicate,List.length_set,List.length_drop,List.length_take,QS] at *;omega)) (by first | exact Q0 m hz _ | omega | (simp only [List.length_map];omega) | (simp only [List.length_map,List.length_append,List.length_cons,List.length_nil,List.length_replicate,List.length_set,List.length_drop,List.length_take,QS] at *;omega)) (by rw [List.map_append,List.map_cons,List.map_take,List.map_drop];rfl)) (aO (T.os 2 3 0 ((((Qh l (ws.take i) m).take k++(D.Used.mk x1 m)::(Qh l (ws.take i) m).drop k).map (Qa true)).length)) Y ?_)))))))))))
   refine VRunO.nil (vinB.n (tn (VRun.region (fO (Zu (tv (tN i) Y) (VEv.int .i64 1) (by first | exact Q0 m hz _ | omega)) (mO (tN (i+1)) Y (VRunO.nil (tn ?_)))))))
   have he3:((Qh l (ws.take i) m).take k++(D.Used.mk x1 m)::(Qh l (ws.take i) m).drop k)=Qh l (ws.take (i+1)) m:=by first | rfl | (rw [JE hx1];first | exact Qbp hI' hx2 fhc1 | exact J6 hI' (by omega)) | (simp;done) | omega
   refine ⟨(i+1:Nat),?_,?_,Wk.mk (fun k=>if k=0 then 3 else k) ?_ ?_ ?_⟩
   ·first | trivial | omega | (simp;done) | exact ⟨by omega,hI'.2⟩
   ·first | omega | (simp only [];omega) | (show _<_;omega) | (simp;omega)
   ·exact (b2 (b2 (b2 (b2 (bc ⟨(congrArg (fun l_=>T.os 2 3 0 (List.map (Qa true) l_).length) he3),rfl⟩ (b2 (b2 (b2 bn))))))))
   ·exact (bc ⟨(congrArg (fun l_=>some (Obj.rows 2 (List.map (Qa true) l_))) he3),(lb Y),rfl⟩ bn)
   ·exact nd Y
  refine oD Y Y (dz fhg28_2) Y (oD Y Y (dz fhg28_2) Y (oD Y Y (dz fhg28_2) Y (oD Y Y (dz fhg28_2) Y (oD Y Y (dz fhg28_2) Y (oD Y Y (dz fhg28_2) Y (fD (OF.pickF (VEv.tmpB Y (dz fhg28_2)) (VEv.bool false)) Y Y (VRunD.nil (tn (cf Y (VRun.exit (vthn.e ?_)))))))))))
  refine vthn.e (vinB.e (tn (VRun.region (mO (T.os 2 0 0 (((Qh l (ws.take i) m).map (Qa true)).length)) Y (mO (tN k) Y (lO (OL.loadOn (us:= [(tS x1),(tI m)]) (tv (T.op 1 0) Y) Y YG Qu (lb Y) Y) (kO (OM.buildSlice (l:= [(T.agg [(tS x1),(tI m)])]) (VEvp.cons (tv (T.agg [(tS x1),(tI m)]) Y) VEvp.nil) Y (by decide) (bc (nofun) bn) (bc ((bc (Y) (bc (Y) bn))) bn) (bc (Y) bn) Zg Zt (by kernel_rfl) Y (by rw [Qu];decide) Qu (Nat.le_of_ble_eq_true Y)) (cO (B.insert (rows:=((Qh l (ws.take i) m).map (Qa true))) (r:= [(tS x1),(tI m)]) (rows3:=(((Qh l (ws.take i) m).take k++(D.Used.mk x1 m)::(Qh l (ws.take i) m).drop k).map (Qa true))) (i:=k) Y Y Y (VDst.own (tv (T.os 2 0 0 (((Qh l (ws.take i) m).map (Qa true)).length)) Y) Y Y) (tv (tN k) Y) Y (VDst.own (tv (T.os 2 2 0 1) Y) Y Y) (by decide) (Ys (fun _=>rfl) _) (bc (bc Y (bc Y bn)) bn) (okeUsed.okMap _ _) (bc Y (bc Y bn)) (by decide) (by decide) (by first | exact Q0 m hz _ | omega | (simp only [List.length_map];omega) | (simp only [List.length_map,List.length_append,List.length_cons,List.length_nil,List.length_replicate,List.length_set,List.length_drop,List.length_take,QS] at *;omega)) (by first | exact Q0 m hz _ | omega | (simp only [List.length_map];omega) | (simp only [List.length_map,List.length_append,List.length_cons,List.length_nil,List.length_replicate,List.length_set,List.length_drop,List.length_take,QS] at *;omega)) (by rw [List.map_append,List.map_cons,List.map_take,List.map_drop];rfl)) (aO (T.os 2 3 0 ((((Qh l (ws.take i) m).take k++(D.Used.mk x1 m)::(Qh l (ws.take i) m).drop k).map (Qa true)).length)) Y (VRunO.nil (vinB.n ?_)))))))))))
  refine tn (VRun.region (fO (Zu (tv (tN i) Y) (VEv.int .i64 1) (by first | exact Q0 m hz _ | omega)) (mO (tN (i+1)) Y (VRunO.nil (tn ?_)))))
  have he4:((Qh l (ws.take i) m).take k++(D.Used.mk x1 m)::(Qh l (ws.take i) m).drop k)=Qh l (ws.take (i+1)) m:=by first | rfl | (rw [JE hx1];first | exact Qbp hI' hx2 fhc1 | exact J6 hI' (by omega)) | (simp;done) | omega
  refine ⟨(i+1:Nat),?_,?_,Wk.mk (fun k=>if k=0 then 3 else k) ?_ ?_ ?_⟩
  ·first | trivial | omega | (simp;done) | exact ⟨by omega,hI'.2⟩
  ·first | omega | (simp only [];omega) | (show _<_;omega) | (simp;omega)
  ·exact (b2 (b2 (b2 (b2 (bc ⟨(congrArg (fun l_=>T.os 2 3 0 (List.map (Qa true) l_).length) he4),rfl⟩ (b2 (b2 (b2 bn))))))))
  ·exact (bc ⟨(congrArg (fun l_=>some (Obj.rows 2 (List.map (Qa true) l_))) he4),(lb Y),rfl⟩ bn)
  ·exact nd Y
 refine VRun.exit (vthn.e (vthn.e (vinB.e (tn (sq (sr (mO (T.os 2 0 0 (((Qh l (ws.take i) m).map (Qa true)).length)) Y (cO (cS (us:= [(rd 2 Qa (Qh l (ws.take i) m))]) (vc (tv (T.os 2 0 0 (((Qh l (ws.take i) m).map (Qa true)).length)) Y) vn) (LendL.cons (Lend.os Y Y (okeUsed.fzMap _ _)) ln) (Qap (n+0) (Qh l (ws.take i) m) (by first | exact Q0 m hz _ | assumption | omega)) Y Y) (fO (Yl (tv (tB (decide (Qc (Qh l (ws.take i) m)))) Y)) (nt ?_))))))))))
 refine cn (Qc (Qh l (ws.take i) m)) Y (fun fhc2=> ?_) fun fhc2=> ?_
 ·refine sr ?_
  refine mO (rd 2 Qa l) Y (cO (OC.callF (r':=(T.os 2 1 0 ((l.map (Qa true)).length))) (objs:= [(Obj.rows 2 (l.map (Qa true)))]) Y (vc (tv (rd 2 Qa l) Y) vn) (JF Y) (QH (n+2) l (by first | exact Q0 m hz _ | assumption | omega)) Y) (aO (T.os 2 1 0 ((l.map (Qa true)).length)) Y (fO (OF.assign (VEv.bool false)) (nt (rt (tr ?_))))))
  refine vfin.eq (r':=(T.tup [(T.sl true 2 (l.map (Qa true))),(tB false)])) ?_ (vfin.r (VRes.tmp (t:=(T.os 2 1 0 ((l.map (Qa true)).length))) Y (VRes.tmp (t:=(tB false)) Y VRes.nil)) (Give.tup (GiveL.cons (Give.os Y Y (okeUsed.cleanMap _)) (GiveL.cons (Give.bool _) GiveL.nil (by decide)) (by decide))))
  have htk:ws.take i=ws:=List.take_of_length_le (by omega)
  rw [htk] at fhc2
  try rw [htk]
  first | (rw [Qal fhc2,decide_eq_false fhc2]) | (rw [JM fhc2,decide_eq_true fhc2])
 refine sk (tn (sr (mO (T.os 2 0 0 (((Qh l (ws.take i) m).map (Qa true)).length)) Y (aO (T.os 2 0 0 (((Qh l (ws.take i) m).map (Qa true)).length)) Y (fO (OF.assign (VEv.bool true)) (nt (rt ?_)))))))
 refine vfin.eq (r':=(T.tup [(T.sl true 2 ((Qh l (ws.take i) m).map (Qa true))),(tB true)])) ?_ (vfin.r (VRes.tmp (t:=(T.os 2 0 0 (((Qh l (ws.take i) m).map (Qa true)).length))) Y (VRes.tmp (t:=(tB true)) Y VRes.nil)) (Give.tup (GiveL.cons (Give.os Y Y (okeUsed.cleanMap _)) (GiveL.cons (Give.bool _) GiveL.nil (by decide)) (by decide))))
 have htk:ws.take i=ws:=List.take_of_length_le (by omega)
 rw [htk] at fhc2
 try rw [htk]
 first | (rw [Qal fhc2,decide_eq_false fhc2]) | (rw [JM fhc2,decide_eq_true fhc2])
theorem Yx (n:Nat) (a0:List D.Used) (a1:List ByteArray) (a2:Int) (g0:(a0.length≤maxLen∧∀y∈a0,QcI y)) (g1:(a1.length≤maxLen∧∀y∈a1,y.size≤maxLen)) (g2:(Lit.int .i64 a2).wf=true):Pure (Qt Try.prog (n+5)) 4 [(rd 2 Qa a0),(rd 1 Qf a1),(tI a2)] (tB true):=by
 refine Pure.intro (rs:= [ResultVar.tmp 6]) Try.func4 Y Y Y (E0:= [(0,(rd 2 Qa a0)),(1,(rd 1 Qf a1)),(2,(tI a2))]) Y ?_
 obtain ⟨hlim,hmx,hmax⟩:=Zi
 have hl0:=ZL (z:=Qn) a0
 have hl1:=ZL (z:=ByteArray.size) a1
 have hx:=Qd1 a0 a1 a2
 have hx2:=ZL (z:=Qn) (Qd a0 a1 a2)
 refine sr (fO (OF.assign (VEv.bool false)) (nt (sr (fO (OF.assign (VEv.int .i64 1048576)) (nt (sr (mO (rd 2 Qa a0) Y (mO (tN 1048576) Y (cO (cS (vc (tv (rd 2 Qa a0) Y) (vc (tv (tN 1048576) Y) vn)) (JF Y) (Qaf (n+2) a0 1048576 (by first | exact g0.2 | exact g1.2 | exact Qk _ _ _ _ | (simp only [Qg];omega) | assumption | omega | (simp only [List.length_map];omega) | (simp only [List.length_map,List.length_append,List.length_cons,List.length_nil,List.length_replicate,List.length_set,List.length_drop,List.length_take,QS] at *;omega)) (by first | exact g0.2 | exact g1.2 | exact Qk _ _ _ _ | (simp only [Qg];omega) | assumption | omega | (simp only [List.length_map];omega) | (simp only [List.length_map,List.length_append,List.length_cons,List.length_nil,List.length_replicate,List.length_set,List.length_drop,List.length_take,QS] at *;omega)) (by first | exact g0.2 | exact g1.2 | exact Qk _ _ _ _ | (simp only [Qg];omega) | assumption | omega | (simp only [List.length_map];omega) | (simp only [List.length_map,List.length_append,List.length_cons,List.length_nil,List.length_replicate,List.length_set,List.length_drop,List.length_take,QS] at *;omega))) Y Y) (aO (tI (Yn (zL Qn a0) 1048576)) Y (nt ?_)))))))))))
 refine sq (sr (mO (tI (Yn (zL Qn a0) 1048576)) Y (fO (xls (tv (tI (Yn (zL Qn a0) 1048576)) Y) (VEv.int .i64 0)) (nt ?_))))
 refine cd (Yn (zL Qn a0) 1048576<0) Y (fun fhc0=> ?_) fun fhc0=> ?_
 ·refine sr ?_
  refine fO (OF.assign (VEv.bool true)) (nt (rt (tr ?_)))
  exact vb Y Y
 first | (have hz0:=ZP fhc0) | skip
 refine sk (tn (sr (mO (rd 1 Qf a1) Y (mO (tI (Yn (zL Qn a0) 1048576)) Y (cO (cS (vc (tv (rd 1 Qf a1) Y) (vc (tv (tI (Yn (zL Qn a0) 1048576)) Y) vn)) (JF Y) (Jx (n+3) a1 (Yn (zL Qn a0) 1048576) (by first | exact g0.2 | exact g1.2 | exact Qk _ _ _ _ | (simp only [Qg];omega) | assumption | omega | (simp only [List.length_map];omega) | (simp only [List.length_map,List.length_append,List.length_cons,List.length_nil,List.length_replicate,List.length_set,List.length_drop,List.length_take,QS] at *;omega)) (by first | exact g0.2 | exact g1.2 | exact Qk _ _ _ _ | (simp only [Qg];omega) | assumption | omega | (simp only [List.length_map];omega) | (simp only [List.length_map,List.length_append,List.length_cons,List.length_nil,List.length_replicate,List.length_set,List.length_drop,List.length_take,QS] at *;omega)) (by first | exact g0.2 | exact g1.2 | exact Qk _ _ _ _ | (simp only [Qg];omega) | assumption | omega | (simp only [List.length_map];omega) | (simp only [List.length_map,List.length_append,List.length_cons,List.length_nil,List.length_replicate,List.length_set,List.length_drop,List.length_take,QS] at *;omega))) Y Y) (aO (tI (Yn (zL ByteArray.size a1) (Yn (zL Qn a0) 1048576))) Y (nt (sq (sr (mO (tI (Yn (zL ByteArray.size a1) (Yn (zL Qn a0) 1048576))) Y (fO (xls (tv (tI (Yn (zL ByteArray.size a1) (Yn (zL Qn a0) 1048576))) Y) (VEv.int .i64 0)) ?_)))))))))))
 refine nt ?_
 refine cd (Yn (zL ByteArray.size a1) (Yn (zL Qn a0) 1048576)<0) Y (fun fhc1=> ?_) fun fhc1=> ?_
 ·refine sr ?_
  refine fO (OF.assign (VEv.bool true)) (nt (rt (tr ?_)))
  exact vb Y Y
 first | (have hz1:=ZP fhc1) | skip
 refine sk (tn (sr (mO (rd 2 Qa a0) Y (cO (OC.callF (r':=(T.os 2 0 0 ((a0.map (Qa true)).length))) (objs:= [(Obj.rows 2 (a0.map (Qa true)))]) Y (vc (tv (rd 2 Qa a0) Y) vn) (JF Y) (Ze (n+2) a0 (by first | exact g0.2 | exact g1.2 | exact Qk _ _ _ _ | (simp only [Qg];omega) | assumption | omega | (simp only [List.length_map];omega) | (simp only [List.length_map,List.length_append,List.length_cons,List.length_nil,List.length_replicate,List.length_set,List.length_drop,List.length_take,QS] at *;omega))) Y) (mO (rd 1 Qf a1) Y (cO (OC.callF (r':=(T.os 1 1 0 ((a1.map (Qf true)).length))) (objs:= [(Obj.rows 1 (a1.map (Qf true)))]) Y (vc (tv (rd 1 Qf a1) Y) vn) (JF Y) (Q2 (n+3) a1 (by first | exact g0.2 | exact g1.2 | exact Qk _ _ _ _ | (simp only [Qg];omega) | assumption | omega | (simp only [List.length_map];omega) | (simp only [List.length_map,List.length_append,List.length_cons,List.length_nil,List.length_replicate,List.length_set,List.length_drop,List.length_take,QS] at *;omega))) Y) (mO (tI a2) Y (cO (OC.callF (us:= [(rd 2 Qa a0),(rd 1 Qf a1),(tI a2)]) (r':=(T.tup [(T.os 2 2 0 (((Qd a0 a1 a2).map (Qa true)).length)),(tB (decide (Qc (Qh a0 a1 a2))))])) (objs:= [(Obj.rows 2 ((Qd a0 a1 a2).map (Qa true)))]) Y (vc (tv (T.os 2 0 0 ((a0.map (Qa true)).length)) Y) (vc (tv (T.os 1 1 0 ((a1.map (Qf true)).length)) Y) (vc (tv (tI a2) Y) vn))) (LendL.cons (Lend.os Y Y (okeUsed.fzMap _ _)) (LendL.cons (Lend.os Y Y (okStr.fzMap _ _)) (lp Y ln))) (J5 (n+0) a0 a1 a2 (by first | exact g0.2 | exact g1.2 | exact Qk _ _ _ _ | (simp only [Qg];omega) | assumption | omega | (simp only [List.length_map];omega) | (simp only [List.length_map,List.length_append,List.length_cons,List.length_nil,List.length_replicate,List.length_set,List.length_drop,List.length_take,QS] at *;omega))) Y) (mO (T.tup [(T.os 2 2 0 (((Qd a0 a1 a2).map (Qa true)).length)),(tB (decide (Qc (Qh a0 a1 a2))))]) Y (fO (OF.extract (t:=(T.os 2 2 0 (((Qd a0 a1 a2).map (Qa true)).length))) (tv (T.tup [(T.os 2 2 0 (((Qd a0 a1 a2).map (Qa true)).length)),(tB (decide (Qc (Qh a0 a1 a2))))]) Y) Y) (fO (OF.extract (t:=(tB (decide (Qc (Qh a0 a1 a2))))) (tv (T.tup [(T.os 2 2 0 (((Qd a0 a1 a2).map (Qa true)).length)),(tB (decide (Qc (Qh a0 a1 a2))))]) Y) Y) ?_)))))))))))
 refine aO (T.os 2 2 0 (((Qd a0 a1 a2).map (Qa true)).length)) Y (aO (tB (decide (Qc (Qh a0 a1 a2)))) Y (nt (sr (mO (rd 2 Qa a0) Y (cO (OC.callF (r':=(T.os 2 3 0 ((a0.map (Qa true)).length))) (objs:= [(Obj.rows 2 (a0.map (Qa true)))]) Y (vc (tv (rd 2 Qa a0) Y) vn) (JF Y) (Ze (n+2) a0 (by first | exact g0.2 | exact g1.2 | exact Qk _ _ _ _ | (simp only [Qg];omega) | assumption | omega | (simp only [List.length_map];omega) | (simp only [List.length_map,List.length_append,List.length_cons,List.length_nil,List.length_replicate,List.length_set,List.length_drop,List.length_take,QS] at *;omega))) Y) (aO (T.os 2 3 0 ((a0.map (Qa true)).length)) Y (nt (sr (mO (rd 1 Qf a1) Y (cO (OC.callF (r':=(T.os 1 4 0 ((a1.map (Qf true)).length))) (objs:= [(Obj.rows 1 (a1.map (Qf true)))]) Y (vc (tv (rd 1 Qf a1) Y) vn) (JF Y) (Q2 (n+3) a1 (by first | exact g0.2 | exact g1.2 | exact Qk _ _ _ _ | (simp only [Qg];omega) | assumption | omega | (simp only [List.length_map];omega) | (simp only [List.length_map,List.length_append,List.length_cons,List.length_nil,List.length_replicate,List.length_set,List.length_drop,List.length_take,QS] at *;omega))) Y) (aO (T.os 1 4 0 ((a1.map (Qf true)).length)) Y ?_)))))))))))
 refine nt (sr (mO (T.os 2 3 0 ((a0.map (Qa true)).length)) Y (mO (T.os 1 4 0 ((a1.map (Qf true)).length)) Y (mO (tI a2) Y (cO (OC.callF (us:= [(rd 2 Qa a0),(rd 1 Qf a1),(tI a2)]) (r':=(T.tup [(T.os 2 5 0 (((Qd a0 a1 a2).map (Qa true)).length)),(tB (decide (Qc (Qh a0 a1 a2))))])) (objs:= [(Obj.rows 2 ((Qd a0 a1 a2).map (Qa true)))]) Y (vc (tv (T.os 2 3 0 ((a0.map (Qa true)).length)) Y) (vc (tv (T.os 1 4 0 ((a1.map (Qf true)).length)) Y) (vc (tv (tI a2) Y) vn))) (LendL.cons (Lend.os Y Y (okeUsed.fzMap _ _)) (LendL.cons (Lend.os Y Y (okStr.fzMap _ _)) (lp Y ln))) (YI (n+0) a0 a1 a2 (by first | exact g0.2 | exact g1.2 | exact Qk _ _ _ _ | (simp only [Qg];omega) | assumption | omega | (simp only [List.length_map];omega) | (simp only [List.length_map,List.length_append,List.length_cons,List.length_nil,List.length_replicate,List.length_set,List.length_drop,List.length_take,QS] at *;omega))) Y) (mO (T.tup [(T.os 2 5 0 (((Qd a0 a1 a2).map (Qa true)).length)),(tB (decide (Qc (Qh a0 a1 a2))))]) Y (fO (OF.extract (t:=(T.os 2 5 0 (((Qd a0 a1 a2).map (Qa true)).length))) (tv (T.tup [(T.os 2 5 0 (((Qd a0 a1 a2).map (Qa true)).length)),(tB (decide (Qc (Qh a0 a1 a2))))]) Y) Y) (fO (OF.extract (t:=(tB (decide (Qc (Qh a0 a1 a2))))) (tv (T.tup [(T.os 2 5 0 (((Qd a0 a1 a2).map (Qa true)).length)),(tB (decide (Qc (Qh a0 a1 a2))))]) Y) Y) (aO (T.os 2 5 0 (((Qd a0 a1 a2).map (Qa true)).length)) Y (aO (tB (decide (Qc (Qh a0 a1 a2)))) Y (nt ?_)))))))))))
 refine sq (sr (mO (T.os 2 5 0 (((Qd a0 a1 a2).map (Qa true)).length)) Y (mO (T.os 2 2 0 (((Qd a0 a1 a2).map (Qa true)).length)) Y (cO (cS (us:= [(rd 2 Qa (Qd a0 a1 a2)),(rd 2 Qa (Qd a0 a1 a2))]) (vc (tv (T.os 2 5 0 (((Qd a0 a1 a2).map (Qa true)).length)) Y) (vc (tv (T.os 2 2 0 (((Qd a0 a1 a2).map (Qa true)).length)) Y) vn)) (LendL.cons (Lend.os Y Y (okeUsed.fzMap _ _)) (LendL.cons (Lend.os Y Y (okeUsed.fzMap _ _)) ln)) (Zd (n+2) (Qd a0 a1 a2) (Qd a0 a1 a2) (by first | exact g0.2 | exact g1.2 | exact Qk _ _ _ _ | (simp only [Qg];omega) | assumption | omega | (simp only [List.length_map];omega) | (simp only [List.length_map,List.length_append,List.length_cons,List.length_nil,List.length_replicate,List.length_set,List.length_drop,List.length_take,QS] at *;omega)) (by first | exact g0.2 | exact g1.2 | exact Qk _ _ _ _ | (simp only [Qg];omega) | assumption | omega | (simp only [List.length_map];omega) | (simp only [List.length_map,List.length_append,List.length_cons,List.length_nil,List.length_replicate,List.length_set,List.length_drop,List.length_take,QS] at *;omega))) Y Y) (fO (Yl (tv (tB (decide ((Qd a0 a1 a2)=(Qd a0 a1 a2)))) Y)) (mO (tB (!(decide ((Qd a0 a1 a2)=(Qd a0 a1 a2))))) Y ?_))))))
 refine gn ((Qd a0 a1 a2)=(Qd a0 a1 a2)) (fun fhg53_1=> ?_) fun fhg53_1=> ?_
 ·refine Qa9 3 4 false 53 (ny fhg53_1) Y Y Y ?_
  refine fO (OF.pickT (VEv.tmpB Y (ny fhg53_1)) (VEv.bool true)) (nt (ct Y (sr (fO (OF.assign (VEv.bool false)) (nt (rt (tr (vb (b':=false) Y ?_))))))))
  first | rfl | (exfalso;omega) | (exfalso;(simp only [Qg] at* <;>omega)) | (exfalso;simp only [Qg,not_true_eq_false] at *;done) | (exfalso;simp_all;done)
 refine gF (nz fhg53_1) Y Y (OF.move (tv (tB (decide (Qc (Qh a0 a1 a2)))) Y)) (gF (nz fhg53_1) Y Y (OF.move (tv (tB (decide (Qc (Qh a0 a1 a2)))) Y)) (gF (nz fhg53_1) Y Y (B.bneq U4 (c:=(!((decide (Qc (Qh a0 a1 a2))) == (decide (Qc (Qh a0 a1 a2)))))) (tv (tB (decide (Qc (Qh a0 a1 a2)))) Y) (tv (tB (decide (Qc (Qh a0 a1 a2)))) Y) Y) (fO (OF.pickF (VEv.tmpB Y (nz fhg53_1)) (tv (tB (!((decide (Qc (Qh a0 a1 a2))) == (decide (Qc (Qh a0 a1 a2)))))) Y)) (nt ?_))))
 refine VRun.cond (tv (tB (!((decide (Qc (Qh a0 a1 a2))) == (decide (Qc (Qh a0 a1 a2)))))) Y) (fun hc2=> ?_) (fun hc2=> ?_)
 ·have fhc2:(!((decide (Qc (Qh a0 a1 a2))) == (decide (Qc (Qh a0 a1 a2)))))=true:=hc2
  refine sr (fO (OF.assign (VEv.bool false)) (nt (rt (tr (vb (b':=false) Y ?_)))))
  first | rfl | (exfalso;omega) | (exfalso;(simp only [Qg] at* <;>omega)) | (exfalso;simp only [Qg,not_true_eq_false] at *;done) | (exfalso;simp_all;done)
 have fhc2:(!((decide (Qc (Qh a0 a1 a2))) == (decide (Qc (Qh a0 a1 a2)))))=false:=hc2
 first | (have hz2:=ZP fhc2) | skip
 refine sk (tn (sq (sr (mO (T.os 2 3 0 ((a0.map (Qa true)).length)) Y (mO (rd 2 Qa a0) Y (cO (OC.callF (r':=(T.os 2 6 0 ((a0.map (Qa true)).length))) (objs:= [(Obj.rows 2 (a0.map (Qa true)))]) Y (vc (tv (rd 2 Qa a0) Y) vn) (JF Y) (Ze (n+2) a0 (by first | exact g0.2 | exact g1.2 | exact Qk _ _ _ _ | (simp only [Qg];omega) | assumption | omega | (simp only [List.length_map];omega) | (simp only [List.length_map,List.length_append,List.length_cons,List.length_nil,List.length_replicate,List.length_set,List.length_drop,List.length_take,QS] at *;omega))) Y) (cO (cS (us:= [(rd 2 Qa a0),(rd 2 Qa a0)]) (vc (tv (T.os 2 3 0 ((a0.map (Qa true)).length)) Y) (vc (tv (T.os 2 6 0 ((a0.map (Qa true)).length)) Y) vn)) (LendL.cons (Lend.os Y Y (okeUsed.fzMap _ _)) (LendL.cons (Lend.os Y Y (okeUsed.fzMap _ _)) ln)) (Zd (n+2) a0 a0 (by first | exact g0.2 | exact g1.2 | exact Qk _ _ _ _ | (simp only [Qg];omega) | assumption | omega | (simp only [List.length_map];omega) | (simp only [List.length_map,List.length_append,List.length_cons,List.length_nil,List.length_replicate,List.length_set,List.length_drop,List.length_take,QS] at *;omega)) (by first | exact g0.2 | exact g1.2 | exact Qk _ _ _ _ | (simp only [Qg];omega) | assumption | omega | (simp only [List.length_map];omega) | (simp only [List.length_map,List.length_append,List.length_cons,List.length_nil,List.length_replicate,List.length_set,List.length_drop,List.length_take,QS] at *;omega))) Y Y) (fO (Yl (tv (tB (decide (a0=a0))) Y)) (nt ?_)))))))))
 refine cn (a0=a0) Y (fun fhc3=> ?_) fun fhc3=> ?_
 ·refine sr ?_
  refine fO (OF.assign (VEv.bool false)) (nt (rt (tr (vb (b':=false) Y ?_))))
  first | rfl | (exfalso;omega) | (exfalso;(simp only [Qg] at* <;>omega)) | (exfalso;simp only [Qg,not_true_eq_false] at *;done) | (exfalso;simp_all;done)
 first | (have hz3:=ZP fhc3) | skip
 refine sk (tn (sq (sr (mO (T.os 1 4 0 ((a1.map (Qf true)).length)) Y (mO (rd 1 Qf a1) Y (cO (OC.callF (r':=(T.os 1 7 0 ((a1.map (Qf true)).length))) (objs:= [(Obj.rows 1 (a1.map (Qf true)))]) Y (vc (tv (rd 1 Qf a1) Y) vn) (JF Y) (Q2 (n+3) a1 (by first | exact g0.2 | exact g1.2 | exact Qk _ _ _ _ | (simp only [Qg];omega) | assumption | omega | (simp only [List.length_map];omega) | (simp only [List.length_map,List.length_append,List.length_cons,List.length_nil,List.length_replicate,List.length_set,List.length_drop,List.length_take,QS] at *;omega))) Y) (cO (cS (us:= [(rd 1 Qf a1),(rd 1 Qf a1)]) (vc (tv (T.os 1 4 0 ((a1.map (Qf true)).length)) Y) (vc (tv (T.os 1 7 0 ((a1.map (Qf true)).length)) Y) vn)) (LendL.cons (Lend.os Y Y (okStr.fzMap _ _)) (LendL.cons (Lend.os Y Y (okStr.fzMap _ _)) ln)) (JA (n+3) a1 a1 (by first | exact g0.2 | exact g1.2 | exact Qk _ _ _ _ | (simp only [Qg];omega) | assumption | omega | (simp only [List.length_map];omega) | (simp only [List.length_map,List.length_append,List.length_cons,List.length_nil,List.length_replicate,List.length_set,List.length_drop,List.length_take,QS] at *;omega)) (by first | exact g0.2 | exact g1.2 | exact Qk _ _ _ _ | (simp only [Qg];omega) | assumption | omega | (simp only [List.length_map];omega) | (simp only [List.length_map,List.length_append,List.length_cons,List.length_nil,List.length_replicate,List.length_set,List.length_drop,List.length_take,QS] at *;omega))) Y Y) (fO (Yl (tv (tB (decide (a1=a1))) Y)) (nt ?_)))))))))
 refine cn (a1=a1) Y (fun fhc4=> ?_) fun fhc4=> ?_
 ·refine sr ?_
  refine fO (OF.assign (VEv.bool false)) (nt (rt (tr (vb (b':=false) Y ?_))))
  first | rfl | (exfalso;omega) | (exfalso;(simp only [Qg] at* <;>omega)) | (exfalso;simp only [Qg,not_true_eq_false] at *;done) | (exfalso;simp_all;done)
 first | (have hz4:=ZP fhc4) | skip
 refine sk (tn (sr (fO (OF.assign (VEv.int .i64 1)) (nt (sr (mO (T.os 2 3 0 ((a0.map (Qa true)).length)) Y (mO (tN 1) Y (cO (OC.callMut (rows:=(a0.map (Qa true))) (rows':=((Yz Qs 2 1 a0.length).map (Qa true))) Y (vc (tv (T.os 2 3 0 ((a0.map (Qa true)).length)) Y) (vc (tv (tN 1) Y) vn)) Y Y (bc Y bn) (Ys (fun _=>rfl) _) (Ys (fun _=>rfl) _) (Yc (n+2) a0 1 (by first | exact g0.2 | exact g1.2 | exact Qk _ _ _ _ | (simp only [Qg];omega) | assumption | omega))) (aO (tN (1+2*a0.length)) Y (nt (sr ?_)))))))))))
 refine mO (T.os 1 4 0 ((a1.map (Qf true)).length)) Y (mO (tN (1+2*a0.length)) Y (cO (OC.callMut (rows:=(a1.map (Qf true))) (rows':=((Yz Qy 1 (1+2*a0.length) a1.length).map (Qf true))) Y (vc (tv (T.os 1 4 0 ((a1.map (Qf true)).length)) Y) (vc (tv (tN (1+2*a0.length)) Y) vn)) Y Y (bc Y bn) (Ys (fun _=>rfl) _) (Ys (fun _=>rfl) _) (Y9 (n+2) a1 (1+2*a0.length) (by first | exact g0.2 | exact g1.2 | exact Qk _ _ _ _ | (simp only [Qg];omega) | assumption | omega))) (aO (tN ((1+2*a0.length)+1*a1.length)) Y (nt (sq (sr (mO (tN ((1+2*a0.length)+1*a1.length)) Y (fO (B.lss (c:=(decide ((1+2*a0.length)+1*a1.length<0))) (tv (tN ((1+2*a0.length)+1*a1.length)) Y) (VEv.int .i64 0) (by first | exact g0.2 | exact g1.2 | exact Qk _ _ _ _ | (simp only [Qg];omega) | (exact ZZ (by omega)))) (mO (tB (decide ((1+2*a0.length)+1*a1.length<0))) Y ?_)))))))))
 refine gw ((1+2*a0.length)+1*a1.length<0) (fun fhg76_2=> ?_) fun fhg76_2=> ?_
 ·refine Qa9 4 2 false 76 (dy fhg76_2) Y Y Y ?_
  refine fO (OF.pickT (VEv.tmpB Y (dy fhg76_2)) (VEv.bool true)) (mO (tB true) Y (Qa9 3 8 false 82 (b:=true) Y Y Y Y (fO (OF.pickT (tv (tB true) Y) (VEv.bool true)) (nt (ct Y (sr (fO (OF.assign (VEv.bool false)) (nt (rt (tr (vb (b':=false) Y ?_)))))))))))
  first | rfl | (exfalso;omega) | (exfalso;(simp only [Qg] at* <;>omega)) | (exfalso;simp only [Qg,not_true_eq_false] at *;done) | (exfalso;simp_all;done)
 refine gF (dz fhg76_2) Y Y (OF.move (tv (T.os 2 5 0 (((Qd a0 a1 a2).map (Qa true)).length)) Y)) (gF (dz fhg76_2) Y Y (OF.move (tv (T.os 2 2 0 (((Qd a0 a1 a2).map (Qa true)).length)) Y)) (VRunO.chain (VWant.on Y Y (dz fhg76_2)) (cS (us:= [(rd 2 Qa (Qd a0 a1 a2)),(rd 2 Qa (Qd a0 a1 a2))]) (vc (tv (T.os 2 5 0 (((Qd a0 a1 a2).map (Qa true)).length)) Y) (vc (tv (T.os 2 2 0 (((Qd a0 a1 a2).map (Qa true)).length)) Y) vn)) (LendL.cons (Lend.os Y Y (okeUsed.fzMap _ _)) (LendL.cons (Lend.os Y Y (okeUsed.fzMap _ _)) ln)) (Zd (n+2) (Qd a0 a1 a2) (Qd a0 a1 a2) (by first | exact g0.2 | exact g1.2 | exact Qk _ _ _ _ | (simp only [Qg];omega) | assumption | omega | (simp only [List.length_map];omega) | (simp only [List.length_map,List.length_append,List.length_cons,List.length_nil,List.length_replicate,List.length_set,List.length_drop,List.length_take,QS] at *;omega)) (by first | exact g0.2 | exact g1.2 | exact Qk _ _ _ _ | (simp only [Qg];omega) | assumption | omega | (simp only [List.length_map];omega) | (simp only [List.length_map,List.length_append,List.length_cons,List.length_nil,List.length_replicate,List.length_set,List.length_drop,List.length_take,QS] at *;omega))) Y Y) (gF (dz fhg76_2) Y Y (Yl (tv (tB (decide ((Qd a0 a1 a2)=(Qd a0 a1 a2)))) Y)) (fO (OF.pickF (VEv.tmpB Y (dz fhg76_2)) (tv (tB (!(decide ((Qd a0 a1 a2)=(Qd a0 a1 a2))))) Y)) (mO (tB (!(decide ((Qd a0 a1 a2)=(Qd a0 a1 a2))))) Y (gF (nz fhg53_1) Y Y (OF.move (tv (tB (decide (Qc (Qh a0 a1 a2)))) Y)) (gF (nz fhg53_1) Y Y (OF.move (tv (tB (decide (Qc (Qh a0 a1 a2)))) Y)) (gF (nz fhg53_1) Y Y (B.bneq U4 (c:=(!((decide (Qc (Qh a0 a1 a2))) == (decide (Qc (Qh a0 a1 a2)))))) (tv (tB (decide (Qc (Qh a0 a1 a2)))) Y) (tv (tB (decide (Qc (Qh a0 a1 a2)))) Y) Y) (fO (OF.pickF (VEv.tmpB Y (nz fhg53_1)) (tv (tB (!((decide (Qc (Qh a0 a1 a2))) == (decide (Qc (Qh a0 a1 a2)))))) Y)) (nt (cg hc2 Y ?_)))))))))))
 refine sk (tn (sr (fO (OF.assign (VEv.int .i64 1)) (nt (sr (mO (T.os 2 5 0 (((Qd a0 a1 a2).map (Qa true)).length)) Y (mO (tN 1) Y (cO (OC.callMut (rows:=((Qd a0 a1 a2).map (Qa true))) (rows':=((Yz Qs 2 1 (Qd a0 a1 a2).length).map (Qa true))) Y (vc (tv (T.os 2 5 0 (((Qd a0 a1 a2).map (Qa true)).length)) Y) (vc (tv (tN 1) Y) vn)) Y Y (bc Y bn) (Ys (fun _=>rfl) _) (Ys (fun _=>rfl) _) (Yc (n+2) (Qd a0 a1 a2) 1 (by first | exact g0.2 | exact g1.2 | exact Qk _ _ _ _ | (simp only [Qg];omega) | assumption | omega))) (aO (tN (1+2*(Qd a0 a1 a2).length)) Y (nt (sr ?_)))))))))))
 refine fO (OF.assign (VEv.int .i64 1)) (nt (sr (mO (T.os 2 5 0 (((Qd a0 a1 a2).map (Qa true)).length)) Y (mO (tN 1) Y (cO (cS (us:= [(rd 2 Qa (Yz Qs 2 1 (Qd a0 a1 a2).length)),(tN 1)]) (vc (tv (T.os 2 5 0 (((Qd a0 a1 a2).map (Qa true)).length)) Y) (vc (tv (tN 1) Y) vn)) (LendL.cons (Lend.os Y (by simp only [List.length_map,Qg,List.length_set]) (okeUsed.fzMap _ _)) (lp Y ln)) (Yd (n+2) (Yz Qs 2 1 (Qd a0 a1 a2).length) 1 (by first | exact g0.2 | exact g1.2 | exact Qk _ _ _ _ | (simp only [Qg];omega) | assumption | omega | (simp only [List.length_map];omega) | (simp only [List.length_map,List.length_append,List.length_cons,List.length_nil,List.length_replicate,List.length_set,List.length_drop,List.length_take,QS] at *;omega)) (by first | exact g0.2 | exact g1.2 | exact Qk _ _ _ _ | (simp only [Qg];omega) | assumption | omega | (simp only [List.length_map];omega) | (simp only [List.length_map,List.length_append,List.length_cons,List.length_nil,List.length_replicate,List.length_set,List.length_drop,List.length_take,QS] at *;omega))) Y Y) (aO (tN (1+2*(Yz Qs 2 1 (Qd a0 a1 a2).length).length)) Y (nt (sq (sr (mO (tN (1+2*(Yz Qs 2 1 (Qd a0 a1 a2).length).length)) Y (fO (B.lss (c:=(decide (1+2*(Yz Qs 2 1 (Qd a0 a1 a2).length).length<0))) (tv (tN (1+2*(Yz Qs 2 1 (Qd a0 a1 a2).length).length)) Y) (VEv.int .i64 0) (by first | exact g0.2 | exact g1.2 | exact Qk _ _ _ _ | (simp only [Qg];omega) | (exact ZZ (by omega)))) ?_)))))))))))
 refine nt ?_
 refine cd (1+2*(Yz Qs 2 1 (Qd a0 a1 a2).length).length<0) Y (fun fhc6=> ?_) fun fhc6=> ?_
 ·refine sr ?_
  refine fO (OF.assign (VEv.bool false)) (nt (rt (tr (vb (b':=false) Y ?_))))
  first | rfl | (exfalso;omega) | (exfalso;(simp only [Qg] at* <;>omega)) | (exfalso;simp only [Qg,not_true_eq_false] at *;done) | (exfalso;simp_all;done)
 first | (have hz6:=ZP fhc6) | skip
 refine sk (tn (sq (sr (mO (tN (1+2*(Yz Qs 2 1 (Qd a0 a1 a2).length).length)) Y (mO (tN (1+2*(Qd a0 a1 a2).length)) Y (fO (QcW (tv (tN (1+2*(Yz Qs 2 1 (Qd a0 a1 a2).length).length)) Y) (tv (tN (1+2*(Qd a0 a1 a2).length)) Y)) (nt ?_)))))))
 refine cn (1+2*(Yz Qs 2 1 (Qd a0 a1 a2).length).length=1+2*(Qd a0 a1 a2).length) Y (fun fhc7=> ?_) fun fhc7=> ?_
 ·refine sr ?_
  refine fO (OF.assign (VEv.bool false)) (nt (rt (tr (vb (b':=false) Y ?_))))
  first | rfl | (exfalso;omega) | (exfalso;(simp only [Qg] at* <;>omega)) | (exfalso;simp only [Qg,not_true_eq_false] at *;done) | (exfalso;simp_all;done)
 first | (have hz7:=ZP fhc7) | skip
 refine sk (tn (sr (mO (rd 2 Qa a0) Y (cO (OC.callF (r':=(T.os 2 8 0 ((a0.map (Qa true)).length))) (objs:= [(Obj.rows 2 (a0.map (Qa true)))]) Y (vc (tv (rd 2 Qa a0) Y) vn) (JF Y) (Ze (n+2) a0 (by first | exact g0.2 | exact g1.2 | exact Qk _ _ _ _ | (simp only [Qg];omega) | assumption | omega | (simp only [List.length_map];omega) | (simp only [List.length_map,List.length_append,List.length_cons,List.length_nil,List.length_replicate,List.length_set,List.length_drop,List.length_take,QS] at *;omega))) Y) (mO (rd 1 Qf a1) Y (cO (OC.callF (r':=(T.os 1 9 0 ((a1.map (Qf true)).length))) (objs:= [(Obj.rows 1 (a1.map (Qf true)))]) Y (vc (tv (rd 1 Qf a1) Y) vn) (JF Y) (Q2 (n+3) a1 (by first | exact g0.2 | exact g1.2 | exact Qk _ _ _ _ | (simp only [Qg];omega) | assumption | omega | (simp only [List.length_map];omega) | (simp only [List.length_map,List.length_append,List.length_cons,List.length_nil,List.length_replicate,List.length_set,List.length_drop,List.length_take,QS] at *;omega))) Y) (mO (tI a2) Y (cO (OC.callF (us:= [(rd 2 Qa a0),(rd 1 Qf a1),(tI a2)]) (r':=(T.tup [(T.os 2 10 0 (((Qd a0 a1 a2).map (Qa true)).length)),(tB (decide (Qc (Qh a0 a1 a2))))])) (objs:= [(Obj.rows 2 ((Qd a0 a1 a2).map (Qa true)))]) Y (vc (tv (T.os 2 8 0 ((a0.map (Qa true)).length)) Y) (vc (tv (T.os 1 9 0 ((a1.map (Qf true)).length)) Y) (vc (tv (tI a2) Y) vn))) (LendL.cons (Lend.os Y Y (okeUsed.fzMap _ _)) (LendL.cons (Lend.os Y Y (okStr.fzMap _ _)) (lp Y ln))) (YI (n+0) a0 a1 a2 (by first | exact g0.2 | exact g1.2 | exact Qk _ _ _ _ | (simp only [Qg];omega) | assumption | omega | (simp only [List.length_map];omega) | (simp only [List.length_map,List.length_append,List.length_cons,List.length_nil,List.length_replicate,List.length_set,List.length_drop,List.length_take,QS] at *;omega))) Y) (mO (T.tup [(T.os 2 10 0 (((Qd a0 a1 a2).map (Qa true)).length)),(tB (decide (Qc (Qh a0 a1 a2))))]) Y (fO (OF.extract (t:=(T.os 2 10 0 (((Qd a0 a1 a2).map (Qa true)).length))) (tv (T.tup [(T.os 2 10 0 (((Qd a0 a1 a2).map (Qa true)).length)),(tB (decide (Qc (Qh a0 a1 a2))))]) Y) Y) (fO (OF.extract (t:=(tB (decide (Qc (Qh a0 a1 a2))))) (tv (T.tup [(T.os 2 10 0 (((Qd a0 a1 a2).map (Qa true)).length)),(tB (decide (Qc (Qh a0 a1 a2))))]) Y) Y) ?_)))))))))))
 refine aO (T.os 2 10 0 (((Qd a0 a1 a2).map (Qa true)).length)) Y (aO (tB (decide (Qc (Qh a0 a1 a2)))) Y (nt (sq (sr (mO (T.os 2 10 0 (((Qd a0 a1 a2).map (Qa true)).length)) Y (mO (T.os 2 2 0 (((Qd a0 a1 a2).map (Qa true)).length)) Y (cO (cS (us:= [(rd 2 Qa (Qd a0 a1 a2)),(rd 2 Qa (Qd a0 a1 a2))]) (vc (tv (T.os 2 10 0 (((Qd a0 a1 a2).map (Qa true)).length)) Y) (vc (tv (T.os 2 2 0 (((Qd a0 a1 a2).map (Qa true)).length)) Y) vn)) (LendL.cons (Lend.os Y Y (okeUsed.fzMap _ _)) (LendL.cons (Lend.os Y Y (okeUsed.fzMap _ _)) ln)) (Zd (n+2) (Qd a0 a1 a2) (Qd a0 a1 a2) (by first | exact g0.2 | exact g1.2 | exact Qk _ _ _ _ | (simp only [Qg];omega) | assumption | omega | (simp only [List.length_map];omega) | (simp only [List.length_map,List.length_append,List.length_cons,List.length_nil,List.length_replicate,List.length_set,List.length_drop,List.length_take,QS] at *;omega)) (by first | exact g0.2 | exact g1.2 | exact Qk _ _ _ _ | (simp only [Qg];omega) | assumption | omega | (simp only [List.length_map];omega) | (simp only [List.length_map,List.length_append,List.length_cons,List.length_nil,List.length_replicate,List.length_set,List.length_drop,List.length_take,QS] at *;omega))) Y Y) (fO (Yl (tv (tB (decide ((Qd a0 a1 a2)=(Qd a0 a1 a2)))) Y)) (mO (tB (!(decide ((Qd a0 a1 a2)=(Qd a0 a1 a2))))) Y (gF (nz fhg53_1) Y Y (OF.move (tv (tB (decide (Qc (Qh a0 a1 a2)))) Y)) (gF (nz fhg53_1) Y Y (OF.move (tv (tB (decide (Qc (Qh a0 a1 a2)))) Y)) ?_)))))))))))
 refine gF (nz fhg53_1) Y Y (B.bneq U4 (c:=(!((decide (Qc (Qh a0 a1 a2))) == (decide (Qc (Qh a0 a1 a2)))))) (tv (tB (decide (Qc (Qh a0 a1 a2)))) Y) (tv (tB (decide (Qc (Qh a0 a1 a2)))) Y) Y) (fO (OF.pickF (VEv.tmpB Y (nz fhg53_1)) (tv (tB (!((decide (Qc (Qh a0 a1 a2))) == (decide (Qc (Qh a0 a1 a2)))))) Y)) (nt (cg hc2 Y (sk (tn (sr (fO (OF.assign (VEv.int .i64 1)) (nt (sr (mO (T.os 2 5 0 (((Qd a0 a1 a2).map (Qa true)).length)) Y (mO (tN 1) Y ?_)))))))))))
 refine cO (cS (us:= [(rd 2 Qa (Yz Qs 2 1 (Qd a0 a1 a2).length)),(tN 1)]) (vc (tv (T.os 2 5 0 (((Qd a0 a1 a2).map (Qa true)).length)) Y) (vc (tv (tN 1) Y) vn)) (LendL.cons (Lend.os Y (by simp only [List.length_map,Qg,List.length_set]) (okeUsed.fzMap _ _)) (lp Y ln)) (Yd (n+2) (Yz Qs 2 1 (Qd a0 a1 a2).length) 1 (by first | exact g0.2 | exact g1.2 | exact Qk _ _ _ _ | (simp only [Qg];omega) | assumption | omega | (simp only [List.length_map];omega) | (simp only [List.length_map,List.length_append,List.length_cons,List.length_nil,List.length_replicate,List.length_set,List.length_drop,List.length_take,QS] at *;omega)) (by first | exact g0.2 | exact g1.2 | exact Qk _ _ _ _ | (simp only [Qg];omega) | assumption | omega | (simp only [List.length_map];omega) | (simp only [List.length_map,List.length_append,List.length_cons,List.length_nil,List.length_replicate,List.length_set,List.length_drop,List.length_take,QS] at *;omega))) Y Y) (aO (tN (1+2*(Yz Qs 2 1 (Qd a0 a1 a2).length).length)) Y (nt (sq (sr (mO (tN (1+2*(Yz Qs 2 1 (Qd a0 a1 a2).length).length)) Y (fO (B.lss (c:=(decide (1+2*(Yz Qs 2 1 (Qd a0 a1 a2).length).length<0))) (tv (tN (1+2*(Yz Qs 2 1 (Qd a0 a1 a2).length).length)) Y) (VEv.int .i64 0) (by first | exact g0.2 | exact g1.2 | exact Qk _ _ _ _ | (simp only [Qg];omega) | (exact ZZ (by omega)))) (nt (cg (dz fhc6) Y (sk (tn (sq ?_)))))))))))
 refine sr (mO (tN (1+2*(Yz Qs 2 1 (Qd a0 a1 a2).length).length)) Y (mO (tN (1+2*(Qd a0 a1 a2).length)) Y (fO (QcW (tv (tN (1+2*(Yz Qs 2 1 (Qd a0 a1 a2).length).length)) Y) (tv (tN (1+2*(Qd a0 a1 a2).length)) Y)) (nt (cg (nz fhc7) Y (sk (tn (sr (fO (OF.assign (VEv.bool true)) (nt (rt ?_)))))))))))
 exact vb Y Y
theorem Qch (a:Option Addr) (n c:Nat):(QbE (.slice a n c)).cells.toList= [QbE (.slice a n c)]:=by cases a<;>rfl
theorem Qda {α:Type} {d:AK α} {e:Bool→α→List T} {x:α} {t:T} {h:AH} {v:Value} (hk:RK d e) (he:e false x= [t]) (hr:d.R h x [v]):R h t v:=by
 have h1:=hk h x _ hr
 rw [he] at h1
 exact h1.tail.1
theorem QbO {α:Type} {d:AK α} {e:Bool→α→List T} {x:α} {t:T} {h:AH} {a:Option Addr} {n c:Nat} (hk:RK d e) (he:e false x= [t]) (hr:d.R h x (QbE (.slice a n c)).cells.toList):R h t (QbE (.slice a n c)):=by
 rw [Qch] at hr
 exact Qda hk he hr
theorem Pure.bool {call:Qr} {f:FuncId} {ts:List T} {b:Bool} (hp:Pure call f ts (.bool b)) {h:AH} {vs:List Value} (hfr:Fr 1 h) (hr:RL h ts vs):CallS call f vs h 1 (fun v _=>v= .bool b):=by
 refine (hp h 1 vs hfr hr).mono ?_
 rintro v h' ⟨_,N,hs,_⟩
 cases hs with
 | fz hr=>cases hr;rfl
open Go Go.RowKit Go.Shelf Go.Lib Go.Proofs
set_option maxHeartbeats 4000000
set_option maxRecDepth 100000
theorem QJ {P:Program} (w:World) (dT sT ty elem:TypeId) {size:Nat} (b o dLen dCap:Nat) (a:Addr) (sLen sCap:Nat) (cs:List Value)
  (hu:P.underlying dT=some (.slice elem)) (hs:∀w,(Go.sizeOf elem).run P w= .ok size w) (hn:cs.length=Nat.min sLen dLen*size)
  (hsrc:∀j v,cs[j]? =some v→w.cell? (a.add j)=some v) (hc:∀j,j<cs.length→(w.cell? ⟨b,o+j,none⟩).isSome=true) (hf:∀j,j<cs.length→w.frozen? ⟨b,o+j,none⟩=false) (h1:∀v∈cs,v.oneCell'=true) :
  (Builtin.copy_ #[dT,sT] ty #[.slice (some ⟨b,o,none⟩) dLen dCap, .slice (some a) sLen sCap]).run P w= .ok (goInt (Nat.min sLen dLen)) (w.setCells b o cs):=by
 have hl:=run_loadCells_list (P:=P) w a cs hsrc
 have hst:=run_storeCells_cells (P:=P) b o cs 0 w (by simpa using hc) (by simpa using hf) h1
 simp [Builtin.copy_,run_underlying hu,Builtin.lenOf,Builtin.firstCells,hs,← hn,hl,hst]
theorem QcY (base:Option Addr) (n c vb voff vc:Nat) (w:World) {v':Value} {W':World} (hn:base=none→n=0∧c=0) (hnc:n≤c)
  (hrun:(Builtin.append_ #[27,27] 27 #[.slice base n c, .slice (some ⟨vb,voff,none⟩) 1 vc]).run Try.prog w= .ok v' W') :
  Calls Try.prog 32 #[.slice base n c, .int .i64 n, .slice (some ⟨vb,voff,none⟩) 1 vc] w fun e w'=>e= .returned v'∧w'=W':=by
 have t0:=Try.underlying0;have u0:=run_underlying Try.underlying0
 have t3:=Try.underlying3;have u3:=run_underlying Try.underlying3
 have t4:=Try.underlying4;have u4:=run_underlying Try.underlying4
 have t27:=Try.underlying27;have u27:=run_underlying Try.underlying27
 have t30:=Try.underlying30;have u30:=run_underlying Try.underlying30
 have z0:∀w,(Go.sizeOf 0).run Try.prog w= .ok 1 w:=fun _=>by kernel_rfl
 have z3:∀w,(Go.sizeOf 3).run Try.prog w= .ok 1 w:=fun _=>by kernel_rfl
 have z4:∀w,(Go.sizeOf 4).run Try.prog w= .ok 1 w:=fun _=>by kernel_rfl
 have z27:∀w,(Go.sizeOf 27).run Try.prog w= .ok 1 w:=fun _=>by kernel_rfl
 have z30:∀w,(Go.sizeOf 30).run Try.prog w= .ok 4 w:=fun _=>by kernel_rfl
 have a0:∀w,(isAgg 0).run Try.prog w= .ok false w:=fun _=>by kernel_rfl
 have a3:∀w,(isAgg 3).run Try.prog w= .ok false w:=fun _=>by kernel_rfl
 have a4:∀w,(isAgg 4).run Try.prog w= .ok false w:=fun _=>by kernel_rfl
 have a27:∀w,(isAgg 27).run Try.prog w= .ok false w:=fun _=>by kernel_rfl
 have v27:∀w,(zeroValue 27).run Try.prog w= .ok (Value.slice none 0 0) w:=fun _=>by kernel_rfl
 have v3:∀w,(zeroValue 3).run Try.prog w= .ok (Value.int IntKind.i64 0) w:=fun _=>by kernel_rfl
 have mixed:Try.prog.follows .mixedOrders=true:=by kernel_rfl
 have hz1:¬((1:Int)=0):=by omega
 go_enter Try.func32,Try.ntmps32
 cases base with
 | none =>
  obtain ⟨h0,h1⟩:=hn Y
  subst h0
  subst h1
  go_wp2_with (at_builtin;refine Lib.wpList_append_run _ Y _ _ _ _ Y _ _ Y Y _ _ hrun ?_)
  go_ret
  exact ⟨rfl,rfl⟩
 | some a =>
  obtain ⟨ab,ao,asp⟩:=a
  go_wp2_with (at_builtin;refine Lib.wpList_append_run _ Y _ _ _ _ Y _ _ Y Y _ _ hrun ?_)
  all_goals (go_ret;exact ⟨rfl,rfl⟩)
theorem QbY (b off n c i vb voff vc:Nat) (cs vs:List Value) (w:World) (hi:i<n) (hroom:n+1≤c) (hn63:n<9223372036854775807) (hvb:vb≠b)
    (hcl:cs.length=n*4) (hvl:vs.length=4)
    (hcs:∀j v,cs[j]? =some v→w.cell? ⟨b,off+j,none⟩=some v) (hsp:∀j,j<(n+1)*4→(w.cell? ⟨b,off+j,none⟩).isSome=true) (hfz:∀j,j<(n+1)*4→w.frozen? ⟨b,off+j,none⟩=false)
    (hvs:∀j v,vs[j]? =some v→w.cell? ⟨vb,voff+j,none⟩=some v) (h1c:∀v∈cs,v.oneCell'=true) (h1v:∀v∈vs,v.oneCell'=true)
    (tA tB:TypeId) (kA kB:Nat) (hsa:w.shape? vb=some (tA,kA)) (hsb:w.shape? b=some (tB,kB)) (hkB:kB≠0) (hfa:w.frozen? ⟨vb,voff,none⟩=false) (hfe:w.frozen? ⟨vb,kA,none⟩=false) :
    Calls Try.prog 32 #[.slice (some ⟨b,off,none⟩) n c, .int .i64 i, .slice (some ⟨vb,voff,none⟩) 1 vc] w fun e w' =>
      e= .returned (.slice (some ⟨b,off,none⟩) (n+1) c)∧w'=(w.drew.setCells b (off+(i+1)*4) (cs.drop (i*4))).setCells b (off+i*4) vs:=by
  have t0:=Try.underlying0;have u0:=run_underlying Try.underlying0
  have t3:=Try.underlying3;have u3:=run_underlying Try.underlying3
  have t4:=Try.underlying4;have u4:=run_underlying Try.underlying4
  have t27:=Try.underlying27;have u27:=run_underlying Try.underlying27
  have t30:=Try.underlying30;have u30:=run_underlying Try.underlying30
  have z0:∀w,(Go.sizeOf 0).run Try.prog w= .ok 1 w:=fun _=>by kernel_rfl
  have z3:∀w,(Go.sizeOf 3).run Try.prog w= .ok 1 w:=fun _=>by kernel_rfl
  have z4:∀w,(Go.sizeOf 4).run Try.prog w= .ok 1 w:=fun _=>by kernel_rfl
  have z27:∀w,(Go.sizeOf 27).run Try.prog w= .ok 1 w:=fun _=>by kernel_rfl
  have z30:∀w,(Go.sizeOf 30).run Try.prog w= .ok 4 w:=fun _=>by kernel_rfl
  have a0:∀w,(isAgg 0).run Try.prog w= .ok false w:=fun _=>by kernel_rfl
  have a3:∀w,(isAgg 3).run Try.prog w= .ok false w:=fun _=>by kernel_rfl
  have a4:∀w,(isAgg 4).run Try.prog w= .ok false w:=fun _=>by kernel_rfl
  have a27:∀w,(isAgg 27).run Try.prog w= .ok false w:=fun _=>by kernel_rfl
  have v27:∀w,(zeroValue 27).run Try.prog w= .ok (Value.slice none 0 0) w:=fun _=>by kernel_rfl
  have v3:∀w,(zeroValue 3).run Try.prog w= .ok (Value.int IntKind.i64 0) w:=fun _=>by kernel_rfl
  have mixed:Try.prog.follows .mixedOrders=true:=by kernel_rfl
  have hz1:¬((1:Int)=0):=by omega
  have hz2:¬((i:Int)=(n:Int)):=by omega
  have hov:∀lb cb,(callFunc 49 #[.slice (some ⟨vb,voff,none⟩) 1 vc, .slice (some ⟨b,off+(i+1)*4,none⟩) lb cb]).run Try.prog w= .ok (.value (.bool false)) w:=fun lb cb=>by
    rw [run_callFunc_extern Try.func49 (by kernel_rfl) (by kernel_rfl) (by kernel_rfl) (e:=Extern.SlicesOverlaps.overlaps #[27,27] #[4]) (by kernel_rfl),
      Lib.run_overlaps_apart w 27 4 30 Try.underlying27 4 z30 ⟨vb,voff,none⟩ ⟨b,off+(i+1)*4,none⟩ 1 vc lb cb hvb tA tB kA kB hsa hsb hkB hfa hfe]
    rfl
  have hdl:(cs.drop (i*4)).length=(n - i)*4:=by rw [List.length_drop,hcl];omega
  have hw1:IntKind.i64.wrap ((i:Int)+1)=(i:Int)+1:=by rw [IntKind.wrap_i64];omega
  have hw2:IntKind.i64.wrap ((n:Int)+1)=(n:Int)+1:=by rw [IntKind.wrap_i64];omega
  have hb1:(0:Int)≤(i:Int)+1:=by omega
  have hin:i≤n:=by omega
  have htn:((i:Int)+1).toNat=i+1:=by omega
  have hb2:¬(c=i+1):=by omega
  have hb3:(i:Int)≤(n:Int)+1:=by omega
  have hb4:¬(c=i):=by omega
  have hcp1:∀ty dc sc,(Builtin.copy_ #[27,27] ty #[.slice (some ⟨b,off+(i+1)*4,none⟩) (n - i) dc, .slice (some ⟨b,off+i*4,none⟩) (n+1 - i) sc]).run Try.prog w.drew= .ok (goInt (Nat.min (n+1 - i) (n - i))) (w.drew.setCells b (off+(i+1)*4) (cs.drop (i*4))):=fun ty dc sc =>
    QJ w.drew _ _ ty 30 b (off+(i+1)*4) (n - i) dc ⟨b,off+i*4,none⟩ (n+1 - i) sc (cs.drop (i*4)) Try.underlying27 z30 (by rw [hdl];simp only [Nat.min_def];split<;>omega)
      (fun j v hj=>by rw [Addr.add_lit,Nat.add_assoc];exact hcs (i*4+j) v (by rwa [List.getElem?_drop] at hj))
      (fun j hj=>by rw [Nat.add_assoc];exact hsp _ (by omega)) (fun j hj=>by rw [Nat.add_assoc];exact hfz _ (by omega)) (fun v hv=>h1c v (List.mem_of_mem_drop hv))
  obtain ⟨W1,hW1⟩:∃W1,W1=w.drew.setCells b (off+(i+1)*4) (cs.drop (i*4)):=⟨_,rfl⟩
  have hsp1:∀k,k<(n+1)*4→(W1.cell? ⟨b,off+k,none⟩).isSome=true:=fun k hk=>by
    rw [hW1]
    exact isSome_setCells b _ _ _ (fun j hj=>by rw [Nat.add_assoc];exact hsp _ (by omega)) _ (hsp k hk)
  have hcp2:∀(W:World),(∀x,W.cell? x=W1.cell? x)→(∀x,W.frozen? x=W1.frozen? x)→∀ty dc,(Builtin.copy_ #[27,27] ty #[.slice (some ⟨b,off+i*4,none⟩) (n+1 - i) dc, .slice (some ⟨vb,voff,none⟩) 1 vc]).run Try.prog W= .ok (goInt (Nat.min 1 (n+1 - i))) (W.setCells b (off+i*4) vs):=fun W hWc hWf ty dc =>
    QJ W _ _ ty 30 b (off+i*4) (n+1 - i) dc ⟨vb,voff,none⟩ 1 vc vs Try.underlying27 z30 (by rw [hvl];simp only [Nat.min_def];split<;>omega)
      (fun j v hj=>by
        rw [Addr.add_lit,hWc,hW1,World.cell?_setCells_out b _ _ _ _ (fun h _=>absurd h hvb)]
        exact hvs j v hj)
      (fun j hj=>by rw [hWc,Nat.add_assoc];exact hsp1 _ (by omega)) (fun j hj=>by rw [hWf,hW1,World.frozen?_setCells,Nat.add_assoc];exact hfz _ (by omega)) h1v
  rw [← hW1] at hcp1
  go_enter Try.func32,Try.ntmps32
  go_wp2_with (simp only [hov])
  go_region_law_o (refine step_copy_runI Y _ _ 27 27 Y _ _ (by simp [Act.eval,Act.put]) (by simp [Act.eval,Act.put]) (hcp1 _ _ _) ?_)
  go_wp2_with (at_builtin;refine wpList_copy_runI _ Y _ _ 27 27 Y _ _ Y Y (hcp2 _ (fun _=>rfl) (fun _=>rfl) _ _) ?_)
  go_ret
  first | exact ⟨rfl,rfl⟩ | exact ⟨rfl,by rw [hW1]⟩
theorem Qcn (b off n i vb voff vc:Nat) (cs vs:List Value) (w:World) (hi:i<n) (hn63:n<4611686018427387904) {i0:TypeInfo} {z:Value} (hi0:Try.prog.info? 30=some i0) (hz0:i0.zero=some z) (hzs:i0.size=4) (hzc:z.cells.size=4) (hbig:2*(n+1)*i0.bytes≤281474976710656)
    (hcl:cs.length=n*4) (hvl:vs.length=4)
    (hcs:∀j v,cs[j]? =some v→w.cell? ⟨b,off+j,none⟩=some v)
    (hvs:∀j v,vs[j]? =some v→w.cell? ⟨vb,voff+j,none⟩=some v) (h1c:∀v∈cs,v.oneCell'=true) (h1v:∀v∈vs,v.oneCell'=true) :
    Calls Try.prog 32 #[.slice (some ⟨b,off,none⟩) n n, .int .i64 i, .slice (some ⟨vb,voff,none⟩) 1 vc] w fun e w' =>
      e= .returned (.slice (some ⟨w.heap.size,0,none⟩) (n+1) (grownCap w (n+1) n 30)) ∧
      w'=(((w.alloc (.cells ((cs.take (i*4)).toArray++Builtin.zeroCells z.cells (n+1 - i)++Builtin.zeroCells z.cells (grownCap w (n+1) n 30 - (n+1))) 30)).drew.setCells w.heap.size (i*4) vs).drew).setCells w.heap.size ((i+1)*4) (cs.drop (i*4)):=by
  have t0:=Try.underlying0;have u0:=run_underlying Try.underlying0
  have t3:=Try.underlying3;have u3:=run_underlying Try.underlying3
  have t4:=Try.underlying4;have u4:=run_underlying Try.underlying4
  have t27:=Try.underlying27;have u27:=run_underlying Try.underlying27
  have t30:=Try.underlying30;have u30:=run_underlying Try.underlying30
  have z0:∀w,(Go.sizeOf 0).run Try.prog w= .ok 1 w:=fun _=>by kernel_rfl
  have z3:∀w,(Go.sizeOf 3).run Try.prog w= .ok 1 w:=fun _=>by kernel_rfl
  have z4:∀w,(Go.sizeOf 4).run Try.prog w= .ok 1 w:=fun _=>by kernel_rfl
  have z27:∀w,(Go.sizeOf 27).run Try.prog w= .ok 1 w:=fun _=>by kernel_rfl
  have z30:∀w,(Go.sizeOf 30).run Try.prog w= .ok 4 w:=fun _=>by kernel_rfl
  have a0:∀w,(isAgg 0).run Try.prog w= .ok false w:=fun _=>by kernel_rfl
  have a3:∀w,(isAgg 3).run Try.prog w= .ok false w:=fun _=>by kernel_rfl
  have a4:∀w,(isAgg 4).run Try.prog w= .ok false w:=fun _=>by kernel_rfl
  have a27:∀w,(isAgg 27).run Try.prog w= .ok false w:=fun _=>by kernel_rfl
  have v27:∀w,(zeroValue 27).run Try.prog w= .ok (Value.slice none 0 0) w:=fun _=>by kernel_rfl
  have v3:∀w,(zeroValue 3).run Try.prog w= .ok (Value.int IntKind.i64 0) w:=fun _=>by kernel_rfl
  have mixed:Try.prog.follows .mixedOrders=true:=by kernel_rfl
  have hz1:¬((1:Int)=0):=by omega
  have hz2:¬((i:Int)=(n:Int)):=by omega
  have hz3:(n:Int)<(n:Int)+1:=by omega
  have hbw:b<w.heap.size:=block_lt_of_cell (hcs 0 _ (List.getElem?_eq_getElem (by omega)))
  have hvw:vb<w.heap.size:=block_lt_of_cell (hvs 0 _ (List.getElem?_eq_getElem (by omega)))
  have hkk:(n:Int)+1 - (i:Int)=((n+1 - i:Nat):Int):=by omega
  have hik:i+(n+1 - i)=n+1:=by omega
  have hold:(Builtin.firstCells i0.size i (.slice (some ⟨b,off,none⟩) i n)).run Try.prog w.drew= .ok (cs.take (i*4)).toArray w.drew:=by
    rw [hzs]
    exact run_firstCells_some w.drew 4 i ⟨b,off,none⟩ i n (cs.take (i*4)) (by rw [List.length_take];omega) (fun j v hj=>by
      rw [Addr.add_lit]
      rw [List.getElem?_take] at hj
      split at hj
      · exact hcs j v hj
      · cases hj)
  have hbi:(n+1 - i)*i0.bytes≤281474976710656:=Nat.le_trans (Nat.mul_le_mul_right _ (by omega)) hbig
  have hfit:Builtin.nextslicecap (n+1) n*i0.bytes≤281474976710656:=Nat.le_trans (Nat.mul_le_mul_right _ (nextslicecap_le (by omega))) hbig
  have hrz:∀ty,(Builtin.append_ #[27,3] ty #[.slice (some ⟨b,off,none⟩) i n, .int .i64 ((n:Int)+1 - (i:Int))]).run Try.prog w =
      .ok (.slice (some ⟨w.heap.size,0,none⟩) (n+1) (grownCap w (n+1) n 30)) (w.drew.alloc (.cells ((cs.take (i*4)).toArray++Builtin.zeroCells z.cells (n+1 - i)++Builtin.zeroCells z.cells (grownCap w (n+1) n 30 - (n+1))) 30)):=fun ty=>by
    have h:=Lib.run_append_grow_zeros w 27 3 ty 30 i0 _ .i64 .i64 Try.underlying27 Try.underlying3 hi0 hz0 (some ⟨b,off,none⟩) i n (cs.take (i*4)) hold (n+1 - i) (by omega) (by omega) (by omega) (by omega) hbi (by rw [hik];exact hfit)
    rw [hik] at h
    rw [hkk]
    exact h
  obtain ⟨G,hG⟩:∃G,G=grownCap w (n+1) n 30:=⟨_,rfl⟩
  obtain ⟨ROW,hROW⟩:∃ROW:Array Value,ROW=(cs.take (i*4)).toArray++Builtin.zeroCells z.cells (n+1 - i)++Builtin.zeroCells z.cells (G - (n+1)):=⟨_,rfl⟩
  rw [← hG] at hrz ⊢
  rw [← hROW] at hrz ⊢
  have hRl:(n+1)*4≤ROW.size:=by
    rw [hROW]
    have hq:∀k,(Builtin.zeroCells z.cells k).size=k*z.cells.size:=fun k=>by simp [Builtin.zeroCells]
    rw [Array.size_append,Array.size_append,hq,hq,hzc,List.size_toArray,List.length_take,hcl]
    omega
  obtain ⟨W1,hW1⟩:∃W1,W1=w.drew.alloc (.cells ROW 30):=⟨_,rfl⟩
  rw [← hW1] at hrz
  have hN:∀j,j<(n+1)*4→(W1.cell? ⟨w.heap.size,j,none⟩).isSome=true:=fun j hj=>by
    rw [hW1,World.cell?_alloc_at (w:=w.drew) ROW _ w.heap.size j Y,Array.getElem?_eq_getElem (by omega)];rfl
  have hNf:∀j,W1.frozen? ⟨w.heap.size,j,none⟩=false:=fun j=>by rw [hW1];exact World.frozen?_alloc_at (w:=w.drew) ROW _ w.heap.size j Y
  have hOb:∀j v,w.cell? ⟨b,j,none⟩=some v→W1.cell? ⟨b,j,none⟩=some v:=fun j v h=>by rw [hW1,World.cell?_alloc_past (w:=w.drew) _ b j hbw];exact h
  have hOv:∀j v,w.cell? ⟨vb,j,none⟩=some v→W1.cell? ⟨vb,j,none⟩=some v:=fun j v h=>by rw [hW1,World.cell?_alloc_past (w:=w.drew) _ vb j hvw];exact h
  have hcpA:∀(W:World),(∀x,W.cell? x=W1.cell? x)→(∀x,W.frozen? x=W1.frozen? x)→∀ty dc,(Builtin.copy_ #[27,27] ty #[.slice (some ⟨w.heap.size,i*4,none⟩) (n+1 - i) dc, .slice (some ⟨vb,voff,none⟩) 1 vc]).run Try.prog W= .ok (goInt (Nat.min 1 (n+1 - i))) (W.setCells w.heap.size (i*4) vs):=fun W hWc hWf ty dc =>
    QJ W _ _ ty 30 w.heap.size (i*4) (n+1 - i) dc ⟨vb,voff,none⟩ 1 vc vs Try.underlying27 z30 (by rw [hvl];simp only [Nat.min_def];split<;>omega)
      (fun j v hj=>by rw [Addr.add_lit,hWc];exact hOv _ v (hvs j v hj))
      (fun j hj=>by rw [hWc];exact hN _ (by omega)) (fun j hj=>by rw [hWf];exact hNf _) h1v
  have hGn:n+1≤G:=by rw [hG];exact Zs w _ _ _
  have hGi:¬(G=i):=by omega
  have hGim:¬(G=i+1):=by omega
  have hci:¬(n=i):=by omega
  have hbN:b≠w.heap.size:=by omega
  have hdl:(cs.drop (i*4)).length=(n - i)*4:=by rw [List.length_drop,hcl];omega
  have hcpB:∀(W:World),(∀x,W.cell? x=(W1.setCells w.heap.size (i*4) vs).cell? x)→(∀x,W.frozen? x=(W1.setCells w.heap.size (i*4) vs).frozen? x)→∀ty dc sc,(Builtin.copy_ #[27,27] ty #[.slice (some ⟨w.heap.size,(i+1)*4,none⟩) (n - i) dc, .slice (some ⟨b,off+i*4,none⟩) (n - i) sc]).run Try.prog W= .ok (goInt (Nat.min (n - i) (n - i))) (W.setCells w.heap.size ((i+1)*4) (cs.drop (i*4))):=fun W hWc hWf ty dc sc =>
    QJ W _ _ ty 30 w.heap.size ((i+1)*4) (n - i) dc ⟨b,off+i*4,none⟩ (n - i) sc (cs.drop (i*4)) Try.underlying27 z30 (by rw [hdl];simp only [Nat.min_def];split<;>omega)
      (fun j v hj=>by
        rw [Addr.add_lit,hWc,World.cell?_setCells_out _ _ _ _ _ (fun h _=>absurd h hbN),Nat.add_assoc]
        exact hOb _ v (hcs (i*4+j) v (by rwa [List.getElem?_drop] at hj)))
      (fun j hj=>by rw [hWc];exact isSome_setCells _ _ _ _ (fun t ht=>hN _ (by omega)) _ (hN _ (by omega)))
      (fun j hj=>by rw [hWf,World.frozen?_setCells];exact hNf _) (fun v hv=>h1c v (List.mem_of_mem_drop hv))
  subst hW1
  have hE1:∀x,((w.alloc (.cells ROW 30)).drew).cell? x=(w.drew.alloc (.cells ROW 30)).cell? x:=fun x=>rfl
  have hE2:∀x,((w.alloc (.cells ROW 30)).drew).frozen? x=(w.drew.alloc (.cells ROW 30)).frozen? x:=fun x=>rfl
  have hF1:∀x,(((w.alloc (.cells ROW 30)).drew.setCells w.heap.size (i*4) vs).drew).cell? x=((w.drew.alloc (.cells ROW 30)).setCells w.heap.size (i*4) vs).cell? x:=fun x=>rfl
  have hF2:∀x,(((w.alloc (.cells ROW 30)).drew.setCells w.heap.size (i*4) vs).drew).frozen? x=((w.drew.alloc (.cells ROW 30)).setCells w.heap.size (i*4) vs).frozen? x:=fun x=>rfl
  have hw1:IntKind.i64.wrap ((i:Int)+1)=(i:Int)+1:=by rw [IntKind.wrap_i64];omega
  have hw2:IntKind.i64.wrap ((n:Int)+1)=(n:Int)+1:=by rw [IntKind.wrap_i64];omega
  have hw3:IntKind.i64.wrap ((n:Int)+1 - (i:Int))=(n:Int)+1 - (i:Int):=by rw [IntKind.wrap_i64];omega
  have hb1:(0:Int)≤(i:Int)+1:=by omega
  have hin:i≤n:=by omega
  have htn:((i:Int)+1).toNat=i+1:=by omega
  have hb3:(i:Int)≤(n:Int):=by omega
  clear hkk hik hold hROW hG hRl
  go_enter Try.func32,Try.ntmps32
  go_wp2_with (first
    | (at_builtin;refine Lib.wpList_append_run _ Y _ _ _ _ Y _ _ Y Y _ _ (hrz _) ?_)
    | (at_builtin;refine wpList_copy_runI _ Y _ _ 27 27 Y _ _ Y Y (hcpA _ hE1 hE2 _ _) ?_)
    | (at_builtin;refine wpList_copy_runI _ Y _ _ 27 27 Y _ _ Y Y (hcpB _ (fun _=>rfl) (fun _=>rfl) _ _ _) ?_))
  go_region_law_o (refine step_copy_runI Y _ _ 27 27 Y (.slice (some ⟨w.heap.size,(i+1)*4,none⟩) (n - i) (G - (i+1))) (.slice (some ⟨b,off+i*4,none⟩) (n - i) (n - i)) (by simp [Act.eval,Act.put]) (by simp [Act.eval,Act.put]) (hcpB _ hF1 hF2 3 (G - (i+1)) (n - i)) ?_)
  go_wp2
  go_ret
  exact ⟨rfl,rfl⟩
theorem Qea : Qdw Try.prog 32 27 30 4 40 where
 ut:=Try.underlying27
 info:=⟨_,_,rfl,rfl,rfl,rfl,rfl⟩
 wide:=by decide
 fin base n c vb voff vc w _ _ h1 h2 h3:=QcY base n c vb voff vc w h1 h2 h3
 shift b off n c i vb voff vc cs vs w h1 h2 h3 h4 h5 h6 h7 h8 h9 h10 h11 h12 tA tB kA kB h13 h14 h15 h16 h17:=QbY b off n c i vb voff vc cs vs w h1 h2 h3 h4 h5 h6 h7 h8 h9 h10 h11 h12 tA tB kA kB h13 h14 h15 h16 h17
 grow b off n i vb voff vc cs vs w h1 h2 _ _ h3 h4 h5 h6 h7 h8 h9 h10 h11 h12 h13:=Qcn b off n i vb voff vc cs vs w h1 h2 h3 h4 h5 h6 h7 h8 h9 h10 h11 h12 h13
theorem Qc1 (base:Option Addr) (n c vb voff vc:Nat) (w:World) {v':Value} {W':World} (hn:base=none→n=0∧c=0) (hnc:n≤c)
  (hrun:(Builtin.append_ #[39,39] 39 #[.slice base n c, .slice (some ⟨vb,voff,none⟩) 1 vc]).run Try.prog w= .ok v' W') :
  Calls Try.prog 42 #[.slice base n c, .int .i64 n, .slice (some ⟨vb,voff,none⟩) 1 vc] w fun e w'=>e= .returned v'∧w'=W':=by
 have t0:=Try.underlying0;have u0:=run_underlying Try.underlying0
 have t3:=Try.underlying3;have u3:=run_underlying Try.underlying3
 have t4:=Try.underlying4;have u4:=run_underlying Try.underlying4
 have t39:=Try.underlying39;have u39:=run_underlying Try.underlying39
 have t58:=Try.underlying58;have u58:=run_underlying Try.underlying58
 have z0:∀w,(Go.sizeOf 0).run Try.prog w= .ok 1 w:=fun _=>by kernel_rfl
 have z3:∀w,(Go.sizeOf 3).run Try.prog w= .ok 1 w:=fun _=>by kernel_rfl
 have z4:∀w,(Go.sizeOf 4).run Try.prog w= .ok 1 w:=fun _=>by kernel_rfl
 have z39:∀w,(Go.sizeOf 39).run Try.prog w= .ok 1 w:=fun _=>by kernel_rfl
 have z58:∀w,(Go.sizeOf 58).run Try.prog w= .ok 2 w:=fun _=>by kernel_rfl
 have a0:∀w,(isAgg 0).run Try.prog w= .ok false w:=fun _=>by kernel_rfl
 have a3:∀w,(isAgg 3).run Try.prog w= .ok false w:=fun _=>by kernel_rfl
 have a4:∀w,(isAgg 4).run Try.prog w= .ok false w:=fun _=>by kernel_rfl
 have a39:∀w,(isAgg 39).run Try.prog w= .ok false w:=fun _=>by kernel_rfl
 have v39:∀w,(zeroValue 39).run Try.prog w= .ok (Value.slice none 0 0) w:=fun _=>by kernel_rfl
 have v3:∀w,(zeroValue 3).run Try.prog w= .ok (Value.int IntKind.i64 0) w:=fun _=>by kernel_rfl
 have mixed:Try.prog.follows .mixedOrders=true:=by kernel_rfl
 have hz1:¬((1:Int)=0):=by omega
 go_enter Try.func42,Try.ntmps42
 cases base with
 | none =>
  obtain ⟨h0,h1⟩:=hn Y
  subst h0
  subst h1
  go_wp2_with (at_builtin;refine Lib.wpList_append_run _ Y _ _ _ _ Y _ _ Y Y _ _ hrun ?_)
  go_ret
  exact ⟨rfl,rfl⟩
 | some a =>
  obtain ⟨ab,ao,asp⟩:=a
  go_wp2_with (at_builtin;refine Lib.wpList_append_run _ Y _ _ _ _ Y _ _ Y Y _ _ hrun ?_)
  all_goals (go_ret;exact ⟨rfl,rfl⟩)
theorem QbZ (b off n c i vb voff vc:Nat) (cs vs:List Value) (w:World) (hi:i<n) (hroom:n+1≤c) (hn63:n<9223372036854775807) (hvb:vb≠b)
    (hcl:cs.length=n*2) (hvl:vs.length=2)
    (hcs:∀j v,cs[j]? =some v→w.cell? ⟨b,off+j,none⟩=some v) (hsp:∀j,j<(n+1)*2→(w.cell? ⟨b,off+j,none⟩).isSome=true) (hfz:∀j,j<(n+1)*2→w.frozen? ⟨b,off+j,none⟩=false)
    (hvs:∀j v,vs[j]? =some v→w.cell? ⟨vb,voff+j,none⟩=some v) (h1c:∀v∈cs,v.oneCell'=true) (h1v:∀v∈vs,v.oneCell'=true)
    (tA tB:TypeId) (kA kB:Nat) (hsa:w.shape? vb=some (tA,kA)) (hsb:w.shape? b=some (tB,kB)) (hkB:kB≠0) (hfa:w.frozen? ⟨vb,voff,none⟩=false) (hfe:w.frozen? ⟨vb,kA,none⟩=false) :
    Calls Try.prog 42 #[.slice (some ⟨b,off,none⟩) n c, .int .i64 i, .slice (some ⟨vb,voff,none⟩) 1 vc] w fun e w' =>
      e= .returned (.slice (some ⟨b,off,none⟩) (n+1) c)∧w'=(w.drew.setCells b (off+(i+1)*2) (cs.drop (i*2))).setCells b (off+i*2) vs:=by
  have t0:=Try.underlying0;have u0:=run_underlying Try.underlying0
  have t3:=Try.underlying3;have u3:=run_underlying Try.underlying3
  have t4:=Try.underlying4;have u4:=run_underlying Try.underlying4
  have t39:=Try.underlying39;have u39:=run_underlying Try.underlying39
  have t58:=Try.underlying58;have u58:=run_underlying Try.underlying58
  have z0:∀w,(Go.sizeOf 0).run Try.prog w= .ok 1 w:=fun _=>by kernel_rfl
  have z3:∀w,(Go.sizeOf 3).run Try.prog w= .ok 1 w:=fun _=>by kernel_rfl
  have z4:∀w,(Go.sizeOf 4).run Try.prog w= .ok 1 w:=fun _=>by kernel_rfl
  have z39:∀w,(Go.sizeOf 39).run Try.prog w= .ok 1 w:=fun _=>by kernel_rfl
  have z58:∀w,(Go.sizeOf 58).run Try.prog w= .ok 2 w:=fun _=>by kernel_rfl
  have a0:∀w,(isAgg 0).run Try.prog w= .ok false w:=fun _=>by kernel_rfl
  have a3:∀w,(isAgg 3).run Try.prog w= .ok false w:=fun _=>by kernel_rfl
  have a4:∀w,(isAgg 4).run Try.prog w= .ok false w:=fun _=>by kernel_rfl
  have a39:∀w,(isAgg 39).run Try.prog w= .ok false w:=fun _=>by kernel_rfl
  have v39:∀w,(zeroValue 39).run Try.prog w= .ok (Value.slice none 0 0) w:=fun _=>by kernel_rfl
  have v3:∀w,(zeroValue 3).run Try.prog w= .ok (Value.int IntKind.i64 0) w:=fun _=>by kernel_rfl
  have mixed:Try.prog.follows .mixedOrders=true:=by kernel_rfl
  have hz1:¬((1:Int)=0):=by omega
  have hz2:¬((i:Int)=(n:Int)):=by omega
  have hov:∀lb cb,(callFunc 54 #[.slice (some ⟨vb,voff,none⟩) 1 vc, .slice (some ⟨b,off+(i+1)*2,none⟩) lb cb]).run Try.prog w= .ok (.value (.bool false)) w:=fun lb cb=>by
    rw [run_callFunc_extern Try.func54 (by kernel_rfl) (by kernel_rfl) (by kernel_rfl) (e:=Extern.SlicesOverlaps.overlaps #[39,39] #[4]) (by kernel_rfl),
      Lib.run_overlaps_apart w 39 4 58 Try.underlying39 2 z58 ⟨vb,voff,none⟩ ⟨b,off+(i+1)*2,none⟩ 1 vc lb cb hvb tA tB kA kB hsa hsb hkB hfa hfe]
    rfl
  have hdl:(cs.drop (i*2)).length=(n - i)*2:=by rw [List.length_drop,hcl];omega
  have hw1:IntKind.i64.wrap ((i:Int)+1)=(i:Int)+1:=by rw [IntKind.wrap_i64];omega
  have hw2:IntKind.i64.wrap ((n:Int)+1)=(n:Int)+1:=by rw [IntKind.wrap_i64];omega
  have hb1:(0:Int)≤(i:Int)+1:=by omega
  have hin:i≤n:=by omega
  have htn:((i:Int)+1).toNat=i+1:=by omega
  have hb2:¬(c=i+1):=by omega
  have hb3:(i:Int)≤(n:Int)+1:=by omega
  have hb4:¬(c=i):=by omega
  have hcp1:∀ty dc sc,(Builtin.copy_ #[39,39] ty #[.slice (some ⟨b,off+(i+1)*2,none⟩) (n - i) dc, .slice (some ⟨b,off+i*2,none⟩) (n+1 - i) sc]).run Try.prog w.drew= .ok (goInt (Nat.min (n+1 - i) (n - i))) (w.drew.setCells b (off+(i+1)*2) (cs.drop (i*2))):=fun ty dc sc =>
    QJ w.drew _ _ ty 58 b (off+(i+1)*2) (n - i) dc ⟨b,off+i*2,none⟩ (n+1 - i) sc (cs.drop (i*2)) Try.underlying39 z58 (by rw [hdl];simp only [Nat.min_def];split<;>omega)
      (fun j v hj=>by rw [Addr.add_lit,Nat.add_assoc];exact hcs (i*2+j) v (by rwa [List.getElem?_drop] at hj))
      (fun j hj=>by rw [Nat.add_assoc];exact hsp _ (by omega)) (fun j hj=>by rw [Nat.add_assoc];exact hfz _ (by omega)) (fun v hv=>h1c v (List.mem_of_mem_drop hv))
  obtain ⟨W1,hW1⟩:∃W1,W1=w.drew.setCells b (off+(i+1)*2) (cs.drop (i*2)):=⟨_,rfl⟩
  have hsp1:∀k,k<(n+1)*2→(W1.cell? ⟨b,off+k,none⟩).isSome=true:=fun k hk=>by
    rw [hW1]
    exact isSome_setCells b _ _ _ (fun j hj=>by rw [Nat.add_assoc];exact hsp _ (by omega)) _ (hsp k hk)
  have hcp2:∀(W:World),(∀x,W.cell? x=W1.cell? x)→(∀x,W.frozen? x=W1.frozen? x)→∀ty dc,(Builtin.copy_ #[39,39] ty #[.slice (some ⟨b,off+i*2,none⟩) (n+1 - i) dc, .slice (some ⟨vb,voff,none⟩) 1 vc]).run Try.prog W= .ok (goInt (Nat.min 1 (n+1 - i))) (W.setCells b (off+i*2) vs):=fun W hWc hWf ty dc =>
    QJ W _ _ ty 58 b (off+i*2) (n+1 - i) dc ⟨vb,voff,none⟩ 1 vc vs Try.underlying39 z58 (by rw [hvl];simp only [Nat.min_def];split<;>omega)
      (fun j v hj=>by
        rw [Addr.add_lit,hWc,hW1,World.cell?_setCells_out b _ _ _ _ (fun h _=>absurd h hvb)]
        exact hvs j v hj)
      (fun j hj=>by rw [hWc,Nat.add_assoc];exact hsp1 _ (by omega)) (fun j hj=>by rw [hWf,hW1,World.frozen?_setCells,Nat.add_assoc];exact hfz _ (by omega)) h1v
  rw [← hW1] at hcp1
  go_enter Try.func42,Try.ntmps42
  go_wp2_with (simp only [hov])
  go_region_law_o (refine step_copy_runI Y _ _ 39 39 Y _ _ (by simp [Act.eval,Act.put]) (by simp [Act.eval,Act.put]) (hcp1 _ _ _) ?_)
  go_wp2_with (at_builtin;refine wpList_copy_runI _ Y _ _ 39 39 Y _ _ Y Y (hcp2 _ (fun _=>rfl) (fun _=>rfl) _ _) ?_)
  go_ret
  first | exact ⟨rfl,rfl⟩ | exact ⟨rfl,by rw [hW1]⟩
theorem Qcs (b off n i vb voff vc:Nat) (cs vs:List Value) (w:World) (hi:i<n) (hn63:n<4611686018427387904) {i0:TypeInfo} {z:Value} (hi0:Try.prog.info? 58=some i0) (hz0:i0.zero=some z) (hzs:i0.size=2) (hzc:z.cells.size=2) (hbig:2*(n+1)*i0.bytes≤281474976710656)
    (hcl:cs.length=n*2) (hvl:vs.length=2)
    (hcs:∀j v,cs[j]? =some v→w.cell? ⟨b,off+j,none⟩=some v)
    (hvs:∀j v,vs[j]? =some v→w.cell? ⟨vb,voff+j,none⟩=some v) (h1c:∀v∈cs,v.oneCell'=true) (h1v:∀v∈vs,v.oneCell'=true) :
    Calls Try.prog 42 #[.slice (some ⟨b,off,none⟩) n n, .int .i64 i, .slice (some ⟨vb,voff,none⟩) 1 vc] w fun e w' =>
      e= .returned (.slice (some ⟨w.heap.size,0,none⟩) (n+1) (grownCap w (n+1) n 58)) ∧
      w'=(((w.alloc (.cells ((cs.take (i*2)).toArray++Builtin.zeroCells z.cells (n+1 - i)++Builtin.zeroCells z.cells (grownCap w (n+1) n 58 - (n+1))) 58)).drew.setCells w.heap.size (i*2) vs).drew).setCells w.heap.size ((i+1)*2) (cs.drop (i*2)):=by
  have t0:=Try.underlying0;have u0:=run_underlying Try.underlying0
  have t3:=Try.underlying3;have u3:=run_underlying Try.underlying3
  have t4:=Try.underlying4;have u4:=run_underlying Try.underlying4
  have t39:=Try.underlying39;have u39:=run_underlying Try.underlying39
  have t58:=Try.underlying58;have u58:=run_underlying Try.underlying58
  have z0:∀w,(Go.sizeOf 0).run Try.prog w= .ok 1 w:=fun _=>by kernel_rfl
  have z3:∀w,(Go.sizeOf 3).run Try.prog w= .ok 1 w:=fun _=>by kernel_rfl
  have z4:∀w,(Go.sizeOf 4).run Try.prog w= .ok 1 w:=fun _=>by kernel_rfl
  have z39:∀w,(Go.sizeOf 39).run Try.prog w= .ok 1 w:=fun _=>by kernel_rfl
  have z58:∀w,(Go.sizeOf 58).run Try.prog w= .ok 2 w:=fun _=>by kernel_rfl
  have a0:∀w,(isAgg 0).run Try.prog w= .ok false w:=fun _=>by kernel_rfl
  have a3:∀w,(isAgg 3).run Try.prog w= .ok false w:=fun _=>by kernel_rfl
  have a4:∀w,(isAgg 4).run Try.prog w= .ok false w:=fun _=>by kernel_rfl
  have a39:∀w,(isAgg 39).run Try.prog w= .ok false w:=fun _=>by kernel_rfl
  have v39:∀w,(zeroValue 39).run Try.prog w= .ok (Value.slice none 0 0) w:=fun _=>by kernel_rfl
  have v3:∀w,(zeroValue 3).run Try.prog w= .ok (Value.int IntKind.i64 0) w:=fun _=>by kernel_rfl
  have mixed:Try.prog.follows .mixedOrders=true:=by kernel_rfl
  have hz1:¬((1:Int)=0):=by omega
  have hz2:¬((i:Int)=(n:Int)):=by omega
  have hz3:(n:Int)<(n:Int)+1:=by omega
  have hbw:b<w.heap.size:=block_lt_of_cell (hcs 0 _ (List.getElem?_eq_getElem (by omega)))
  have hvw:vb<w.heap.size:=block_lt_of_cell (hvs 0 _ (List.getElem?_eq_getElem (by omega)))
  have hkk:(n:Int)+1 - (i:Int)=((n+1 - i:Nat):Int):=by omega
  have hik:i+(n+1 - i)=n+1:=by omega
  have hold:(Builtin.firstCells i0.size i (.slice (some ⟨b,off,none⟩) i n)).run Try.prog w.drew= .ok (cs.take (i*2)).toArray w.drew:=by
    rw [hzs]
    exact run_firstCells_some w.drew 2 i ⟨b,off,none⟩ i n (cs.take (i*2)) (by rw [List.length_take];omega) (fun j v hj=>by
      rw [Addr.add_lit]
      rw [List.getElem?_take] at hj
      split at hj
      · exact hcs j v hj
      · cases hj)
  have hbi:(n+1 - i)*i0.bytes≤281474976710656:=Nat.le_trans (Nat.mul_le_mul_right _ (by omega)) hbig
  have hfit:Builtin.nextslicecap (n+1) n*i0.bytes≤281474976710656:=Nat.le_trans (Nat.mul_le_mul_right _ (nextslicecap_le (by omega))) hbig
  have hrz:∀ty,(Builtin.append_ #[39,3] ty #[.slice (some ⟨b,off,none⟩) i n, .int .i64 ((n:Int)+1 - (i:Int))]).run Try.prog w =
      .ok (.slice (some ⟨w.heap.size,0,none⟩) (n+1) (grownCap w (n+1) n 58)) (w.drew.alloc (.cells ((cs.take (i*2)).toArray++Builtin.zeroCells z.cells (n+1 - i)++Builtin.zeroCells z.cells (grownCap w (n+1) n 58 - (n+1))) 58)):=fun ty=>by
    have h:=Lib.run_append_grow_zeros w 39 3 ty 58 i0 _ .i64 .i64 Try.underlying39 Try.underlying3 hi0 hz0 (some ⟨b,off,none⟩) i n (cs.take (i*2)) hold (n+1 - i) (by omega) (by omega) (by omega) (by omega) hbi (by rw [hik];exact hfit)
    rw [hik] at h
    rw [hkk]
    exact h
  obtain ⟨G,hG⟩:∃G,G=grownCap w (n+1) n 58:=⟨_,rfl⟩
  obtain ⟨ROW,hROW⟩:∃ROW:Array Value,ROW=(cs.take (i*2)).toArray++Builtin.zeroCells z.cells (n+1 - i)++Builtin.zeroCells z.cells (G - (n+1)):=⟨_,rfl⟩
  rw [← hG] at hrz ⊢
  rw [← hROW] at hrz ⊢
  have hRl:(n+1)*2≤ROW.size:=by
    rw [hROW]
    have hq:∀k,(Builtin.zeroCells z.cells k).size=k*z.cells.size:=fun k=>by simp [Builtin.zeroCells]
    rw [Array.size_append,Array.size_append,hq,hq,hzc,List.size_toArray,List.length_take,hcl]
    omega
  obtain ⟨W1,hW1⟩:∃W1,W1=w.drew.alloc (.cells ROW 58):=⟨_,rfl⟩
  rw [← hW1] at hrz
  have hN:∀j,j<(n+1)*2→(W1.cell? ⟨w.heap.size,j,none⟩).isSome=true:=fun j hj=>by
    rw [hW1,World.cell?_alloc_at (w:=w.drew) ROW _ w.heap.size j Y,Array.getElem?_eq_getElem (by omega)];rfl
  have hNf:∀j,W1.frozen? ⟨w.heap.size,j,none⟩=false:=fun j=>by rw [hW1];exact World.frozen?_alloc_at (w:=w.drew) ROW _ w.heap.size j Y
  have hOb:∀j v,w.cell? ⟨b,j,none⟩=some v→W1.cell? ⟨b,j,none⟩=some v:=fun j v h=>by rw [hW1,World.cell?_alloc_past (w:=w.drew) _ b j hbw];exact h
  have hOv:∀j v,w.cell? ⟨vb,j,none⟩=some v→W1.cell? ⟨vb,j,none⟩=some v:=fun j v h=>by rw [hW1,World.cell?_alloc_past (w:=w.drew) _ vb j hvw];exact h
  have hcpA:∀(W:World),(∀x,W.cell? x=W1.cell? x)→(∀x,W.frozen? x=W1.frozen? x)→∀ty dc,(Builtin.copy_ #[39,39] ty #[.slice (some ⟨w.heap.size,i*2,none⟩) (n+1 - i) dc, .slice (some ⟨vb,voff,none⟩) 1 vc]).run Try.prog W= .ok (goInt (Nat.min 1 (n+1 - i))) (W.setCells w.heap.size (i*2) vs):=fun W hWc hWf ty dc =>
    QJ W _ _ ty 58 w.heap.size (i*2) (n+1 - i) dc ⟨vb,voff,none⟩ 1 vc vs Try.underlying39 z58 (by rw [hvl];simp only [Nat.min_def];split<;>omega)
      (fun j v hj=>by rw [Addr.add_lit,hWc];exact hOv _ v (hvs j v hj))
      (fun j hj=>by rw [hWc];exact hN _ (by omega)) (fun j hj=>by rw [hWf];exact hNf _) h1v
  have hGn:n+1≤G:=by rw [hG];exact Zs w _ _ _
  have hGi:¬(G=i):=by omega
  have hGim:¬(G=i+1):=by omega
  have hci:¬(n=i):=by omega
  have hbN:b≠w.heap.size:=by omega
  have hdl:(cs.drop (i*2)).length=(n - i)*2:=by rw [List.length_drop,hcl];omega
  have hcpB:∀(W:World),(∀x,W.cell? x=(W1.setCells w.heap.size (i*2) vs).cell? x)→(∀x,W.frozen? x=(W1.setCells w.heap.size (i*2) vs).frozen? x)→∀ty dc sc,(Builtin.copy_ #[39,39] ty #[.slice (some ⟨w.heap.size,(i+1)*2,none⟩) (n - i) dc, .slice (some ⟨b,off+i*2,none⟩) (n - i) sc]).run Try.prog W= .ok (goInt (Nat.min (n - i) (n - i))) (W.setCells w.heap.size ((i+1)*2) (cs.drop (i*2))):=fun W hWc hWf ty dc sc =>
    QJ W _ _ ty 58 w.heap.size ((i+1)*2) (n - i) dc ⟨b,off+i*2,none⟩ (n - i) sc (cs.drop (i*2)) Try.underlying39 z58 (by rw [hdl];simp only [Nat.min_def];split<;>omega)
      (fun j v hj=>by
        rw [Addr.add_lit,hWc,World.cell?_setCells_out _ _ _ _ _ (fun h _=>absurd h hbN),Nat.add_assoc]
        exact hOb _ v (hcs (i*2+j) v (by rwa [List.getElem?_drop] at hj)))
      (fun j hj=>by rw [hWc];exact isSome_setCells _ _ _ _ (fun t ht=>hN _ (by omega)) _ (hN _ (by omega)))
      (fun j hj=>by rw [hWf,World.frozen?_setCells];exact hNf _) (fun v hv=>h1c v (List.mem_of_mem_drop hv))
  subst hW1
  have hE1:∀x,((w.alloc (.cells ROW 58)).drew).cell? x=(w.drew.alloc (.cells ROW 58)).cell? x:=fun x=>rfl
  have hE2:∀x,((w.alloc (.cells ROW 58)).drew).frozen? x=(w.drew.alloc (.cells ROW 58)).frozen? x:=fun x=>rfl
  have hF1:∀x,(((w.alloc (.cells ROW 58)).drew.setCells w.heap.size (i*2) vs).drew).cell? x=((w.drew.alloc (.cells ROW 58)).setCells w.heap.size (i*2) vs).cell? x:=fun x=>rfl
  have hF2:∀x,(((w.alloc (.cells ROW 58)).drew.setCells w.heap.size (i*2) vs).drew).frozen? x=((w.drew.alloc (.cells ROW 58)).setCells w.heap.size (i*2) vs).frozen? x:=fun x=>rfl
  have hw1:IntKind.i64.wrap ((i:Int)+1)=(i:Int)+1:=by rw [IntKind.wrap_i64];omega
  have hw2:IntKind.i64.wrap ((n:Int)+1)=(n:Int)+1:=by rw [IntKind.wrap_i64];omega
  have hw3:IntKind.i64.wrap ((n:Int)+1 - (i:Int))=(n:Int)+1 - (i:Int):=by rw [IntKind.wrap_i64];omega
  have hb1:(0:Int)≤(i:Int)+1:=by omega
  have hin:i≤n:=by omega
  have htn:((i:Int)+1).toNat=i+1:=by omega
  have hb3:(i:Int)≤(n:Int):=by omega
  clear hkk hik hold hROW hG hRl
  go_enter Try.func42,Try.ntmps42
  go_wp2_with (first
    | (at_builtin;refine Lib.wpList_append_run _ Y _ _ _ _ Y _ _ Y Y _ _ (hrz _) ?_)
    | (at_builtin;refine wpList_copy_runI _ Y _ _ 39 39 Y _ _ Y Y (hcpA _ hE1 hE2 _ _) ?_)
    | (at_builtin;refine wpList_copy_runI _ Y _ _ 39 39 Y _ _ Y Y (hcpB _ (fun _=>rfl) (fun _=>rfl) _ _ _) ?_))
  go_region_law_o (refine step_copy_runI Y _ _ 39 39 Y (.slice (some ⟨w.heap.size,(i+1)*2,none⟩) (n - i) (G - (i+1))) (.slice (some ⟨b,off+i*2,none⟩) (n - i) (n - i)) (by simp [Act.eval,Act.put]) (by simp [Act.eval,Act.put]) (hcpB _ hF1 hF2 3 (G - (i+1)) (n - i)) ?_)
  go_wp2
  go_ret
  exact ⟨rfl,rfl⟩
theorem Qd4 : Qdw Try.prog 42 39 58 2 24 where
 ut:=Try.underlying39
 info:=⟨_,_,rfl,rfl,rfl,rfl,rfl⟩
 wide:=by decide
 fin base n c vb voff vc w _ _ h1 h2 h3:=Qc1 base n c vb voff vc w h1 h2 h3
 shift b off n c i vb voff vc cs vs w h1 h2 h3 h4 h5 h6 h7 h8 h9 h10 h11 h12 tA tB kA kB h13 h14 h15 h16 h17:=QbZ b off n c i vb voff vc cs vs w h1 h2 h3 h4 h5 h6 h7 h8 h9 h10 h11 h12 tA tB kA kB h13 h14 h15 h16 h17
 grow b off n i vb voff vc cs vs w h1 h2 _ _ h3 h4 h5 h6 h7 h8 h9 h10 h11 h12 h13:=Qcs b off n i vb voff vc cs vs w h1 h2 h3 h4 h5 h6 h7 h8 h9 h10 h11 h12 h13
open Go
theorem QeD : Qcl Try.prog:=by
 intro f hf
 by_cases h0:f=32
 ·subst h0
  exact J3 Qea
 by_cases h1:f=42
 ·subst h1
  exact J3 Qd4
 simp [YC,h0,h1] at hf
end Go.Proofs.Ytnhblneeekccoaa.AE
