/- A part of what the row of FnExactAfterHint uses. Conditions: as each theorem states. -/
import Derived.Test.YthifchndolccgaaDoorZFnExactAfterHintb
import Derived.Test.YthifchndolccgaaDoorProg
import Derived.KernelRfl
namespace Go.Proofs.YthifchndolccgaaDoor.AE
open Go Go.RowKit
set_option linter.unusedVariables false
set_option linter.unusedSimpArgs false
section
variable {call : Qs} {P : Program} {E : Qz} {O : Qk} {nx : Nat} {S : AX → Qz → Qk → Nat → Prop} {u v : Code} {c : Tmp}
theorem ct (h:gE E c= .bool true) (hx:VRun call P u E O nx S):VRun call P (.cond (.tmp c) u v) E O nx S:=VRun.cond (VEv.tmp h) (fun _=>hx) (fun e=>absurd e (by decide))
theorem cf (h:gE E c= .bool false) (hx:VRun call P v E O nx S):VRun call P (.cond (.tmp c) u v) E O nx S:=VRun.cond (VEv.tmp h) (fun e=>absurd e (by decide)) (fun _=>hx)
theorem ck {b:Bool} (hb:b=true) (h:gE E c= .bool b) (hx:VRun call P u E O nx S):VRun call P (.cond (.tmp c) u v) E O nx S:=ct (hb▸h) hx
theorem cg {b:Bool} (hb:b=false) (h:gE E c= .bool b) (hx:VRun call P v E O nx S):VRun call P (.cond (.tmp c) u v) E O nx S:=cf (hb▸h) hx
theorem vn : VEvs E [] []:= .nil
theorem ln : LendL O [] []:=LendL.nil
theorem Zj : ∀ {ts:List T},ts.all Yz=true→LendL O ts ts
 | [],_=>LendL.nil
 | t::r,h=>by
  simp only [List.all_cons,Bool.and_eq_true] at h
  exact LendL.cons (Lend.pl h.1) (Zj h.2)
def QfR : List Nat→Bool
 | []=>true
 | a::r=> !(r.contains a) && QfR r
theorem nd : ∀ {l:List Nat},QfR l=true→l.Nodup
 | [],_=>List.nodup_nil
 | a::r,h=>by
  simp only [QfR,Bool.and_eq_true] at h
  exact List.nodup_cons.2 ⟨by simpa using h.1,nd h.2⟩
end
section
variable {call : Qs} {P : Program} {E : Qz} {O : Qk} {d : Option Tmp} {ty tt xt : TypeId} {ps : String} {af : Array Edge} {g : Option (Nat × Bool)} {x y : Operand} {kk : IntKind} {a b : Int} {m n : Nat}
theorem xls (hx:VEv E x (.int kk a)) (hy:VEv E y (.int kk b)):OF call P E ⟨d, .binOp .lss tt x y xt,ty,ps,af,g⟩ (.bool (decide (a<b))):=B.lss hx hy Y
theorem xle (hx:VEv E x (.int kk a)) (hy:VEv E y (.int kk b)):OF call P E ⟨d, .binOp .leq tt x y xt,ty,ps,af,g⟩ (.bool (decide (a≤b))):=B.leq hx hy Y
theorem xgt (hx:VEv E x (.int kk a)) (hy:VEv E y (.int kk b)):OF call P E ⟨d, .binOp .gtr tt x y xt,ty,ps,af,g⟩ (.bool (decide (b<a))):=B.gtr hx hy Y
theorem xge (hx:VEv E x (.int kk a)) (hy:VEv E y (.int kk b)):OF call P E ⟨d, .binOp .geq tt x y xt,ty,ps,af,g⟩ (.bool (decide (b≤a))):=B.geq hx hy Y
theorem Jb (hx:VEv E x (.int kk a)) (hy:VEv E y (.int kk b)):OF call P E ⟨d, .binOp .eql tt x y xt,ty,ps,af,g⟩ (.bool (decide (a=b))):=B.eql hx hy Y
theorem xne (hx:VEv E x (.int kk a)) (hy:VEv E y (.int kk b)):OF call P E ⟨d, .binOp .neq tt x y xt,ty,ps,af,g⟩ (.bool (!decide (a=b))):=B.neq hx hy Y
theorem YA (hx:VEv E x (tN m)) (hy:VEv E y (tN n)):OF call P E ⟨d, .binOp .lss tt x y xt,ty,ps,af,g⟩ (.bool (decide (m<n))):=B.lss hx hy (Yv (by omega))
theorem Qg2 (hx:VEv E x (tN m)) (hy:VEv E y (tN n)):OF call P E ⟨d, .binOp .eql tt x y xt,ty,ps,af,g⟩ (.bool (decide (m=n))):=B.eql hx hy (Yv (by omega))
theorem Qe4 (hx:VEv E x (tN m)) (hy:VEv E y (tN n)):OF call P E ⟨d, .binOp .neq tt x y xt,ty,ps,af,g⟩ (.bool (!decide (m=n))):=B.neq hx hy (congrArg (!·) (Yv (by omega)))
theorem QZ {b1:Bool} (hx:VEv E x (.bool b1)):OF call P E ⟨d, .unOp .not tt x,ty,ps,af,g⟩ (.bool (!b1)):=B.not hx Y
theorem Zk (hx:VEv E x (tN m)) (hy:VEv E y (.int .i64 1)) (h:m+1<9223372036854775808):OF call P E ⟨d, .binOp .add tt x y xt,ty,ps,af,g⟩ (tN (m+1)):=B.add hx hy (by rw [Qq (by omega)];omega)
theorem xix {s:ByteArray} (hx:VEv E x (.str s)) (hy:VEv E y (tN m)) (hi:m<s.size) (hu:P.underlying tt=some .string):OF call P E ⟨d, .index tt x y,ty,ps,af,g⟩ (.int .u8 (Jx s m)):=B.index hx hy Y hi hu (QfL hi)
end
section
variable {call : Qs} {P : Program} {ops : Array Oper} {l : List Oper} {E : Qz} {O : Qk} {nx : Nat} {K : Qz → Qk → Nat → Prop} {d1 a : Nat} {d2 : Option Tmp} {ty1 ty2 tt tt2 : TypeId} {ps1 ps2 : String} {af1 af2 : Array Edge} {j k o off : Nat} {us : List T}
theorem QaC (E:Qz) (n:Nat) (t:T):gE ((n,t)::E) n=t:=by simp [gE]
theorem lf (t:T) (h:gE E a= .op k o) (fa:∀k o,Qh P tt (.pointer (some ⟨k,o,none⟩)) j=some (.pointer (some ⟨k,o+off,none⟩))) (hk:gO O k=some (.cells us)) (ht:us[o+off]? =some t) (hst:Qp P tt2=some false) (hK:VRunO call P ops l (pE ((d1, .op k (o+off))::E) d2 t) O nx K) :
  VRunO call P ops (⟨some d1, .fieldAddr tt (.tmp a) j,ty1,ps1,af1,none⟩::⟨d2, .load tt2 (.tmp d1),ty2,ps2,af2,none⟩::l) E O nx K:=fO (OF.fieldAddrO (VEv.tmp h) fa) (lO (OL.loadO1 (VEv.tmp (QaC _ _ _)) hk ht hst) hK)
theorem lr (t:T) (h:gE E a= .rp us) (hn:off≤us.length) (fa:∀k o,Qh P tt (.pointer (some ⟨k,o,none⟩)) j=some (.pointer (some ⟨k,o+off,none⟩))) (ht:(us.drop off)[0]? =some t) (hst:Qp P tt2=some false) (hK:VRunO call P ops l (pE ((d1, .rp (us.drop off))::E) d2 t) O nx K) :
  VRunO call P ops (⟨some d1, .fieldAddr tt (.tmp a) j,ty1,ps1,af1,none⟩::⟨d2, .load tt2 (.tmp d1),ty2,ps2,af2,none⟩::l) E O nx K:=fO (B.fieldAddrR (VEv.tmp h) hn fa Y) (lO (OL.loadR1 (VEv.tmp (QaC _ _ _)) ht hst) hK)
variable {i q : Nat} {w b : Bool} {t0 : T}
theorem glf (t:T) (hb:b=w) (hd:(ops[i]?).bind (·.dst)=some q) (hq:gE E q= .bool b) (hne:(q == d1)=false) (h:gE E a= .op k o) (fa:∀k o,Qh P tt (.pointer (some ⟨k,o,none⟩)) j=some (.pointer (some ⟨k,o+off,none⟩))) (hk:gO O k=some (.cells us)) (ht:us[o+off]? =some t) (hst:Qp P tt2=some false) (hK:VRunO call P ops l (pE ((d1, .op k (o+off))::E) d2 t) O nx K) :
  VRunO call P ops (⟨some d1, .fieldAddr tt (.tmp a) j,ty1,ps1,af1,some (i,w)⟩::⟨d2, .load tt2 (.tmp d1),ty2,ps2,af2,some (i,w)⟩::l) E O nx K:=gF hb hd hq (OF.fieldAddrO (VEv.tmp h) fa) (gL hb hd ((Qdl E hne _).trans hq) (OL.loadO1 (VEv.tmp (QaC _ _ _)) hk ht hst) hK)
theorem glr (t:T) (hb:b=w) (hd:(ops[i]?).bind (·.dst)=some q) (hq:gE E q= .bool b) (hne:(q == d1)=false) (h:gE E a= .rp us) (hn:off≤us.length) (fa:∀k o,Qh P tt (.pointer (some ⟨k,o,none⟩)) j=some (.pointer (some ⟨k,o+off,none⟩))) (ht:(us.drop off)[0]? =some t) (hst:Qp P tt2=some false) (hK:VRunO call P ops l (pE ((d1, .rp (us.drop off))::E) d2 t) O nx K) :
  VRunO call P ops (⟨some d1, .fieldAddr tt (.tmp a) j,ty1,ps1,af1,some (i,w)⟩::⟨d2, .load tt2 (.tmp d1),ty2,ps2,af2,some (i,w)⟩::l) E O nx K:=gF hb hd hq (B.fieldAddrR (VEv.tmp h) hn fa Y) (gL hb hd ((Qdl E hne _).trans hq) (OL.loadR1 (VEv.tmp (QaC _ _ _)) ht hst) hK)
def QeJ (i:Nat) (w:Bool) (q:Nat):List Oper→Bool
 | []=>true
 | o::r=>(match o.guard with | some (a,b)=>Nat.beq a i && (b == w) | none=>false) && (match o.dst with | some d=> !(Nat.beq d q) | none=>true) && QeJ i w q r
def QeZ (E:Qz):List Oper→Qz
 | []=>E
 | o::r=>QeZ (pE E o.dst (.tup [])) r
theorem Qgi (hd:(ops[i]?).bind (·.dst)=some q) (hv:∀(dd:Option Tmp) (op:Op) (ty:TypeId) (ps:String) (af:Array Edge) (E:Qz),gE E q=t0→VWant ops E ⟨dd,op,ty,ps,af,some (i,w)⟩ false) {l2:List Oper} (l1:List Oper):∀(E:Qz),QeJ i w q l1=true→gE E q=t0→VRunO call P ops l2 (QeZ E l1) O nx K→VRunO call P ops (l1++l2) E O nx K:=by
 induction l1 with
 | nil=>exact fun E _ _ hK=>hK
 | cons o r ih =>
  intro E hc hq hK
  obtain ⟨dd,op,ty,ps,af,g⟩:=o
  simp only [QeJ,Bool.and_eq_true] at hc
  obtain ⟨⟨h1,h2⟩,h3⟩:=hc
  cases g with
  | none=>cases h1
  | some g =>
   obtain ⟨a,b⟩:=g
   simp only [Bool.and_eq_true] at h1
   have e1:a=i:=Nat.eq_of_beq_eq_true h1.1
   have e2:b=w:=by simpa using h1.2
   subst e1
   subst e2
   refine VRunO.off (hv _ _ _ _ _ _ hq) (ih _ h3 ?_ hK)
   cases dd with
   | none=>exact hq
   | some d =>
    refine (Qdl E (d:=d) (t:=q) ?_ _).trans hq
    rw [beq_eq_false_iff_ne]
    rintro rfl
    simp at h2
theorem QN (m i:Nat) (w:Bool) (q:Nat) (hb:b= !w) (hd:(ops[i]?).bind (·.dst)=some q) (hq:gE E q= .bool b) (hc:QeJ i w q (l.take m)=true) (hK:VRunO call P ops (l.drop m) (QeZ E (l.take m)) O nx K):VRunO call P ops l E O nx K:=by
 rw [← List.take_append_drop m l]
 exact Qgi hd (fun _ _ _ _ _ _ h=>VWant.not hd h hb) _ _ hc hq hK
theorem QbC (m i:Nat) (w:Bool) (q:Nat) (hd:(ops[i]?).bind (·.dst)=some q) (hq:gE E q= .tup []) (hc:QeJ i w q (l.take m)=true) (hK:VRunO call P ops (l.drop m) (QeZ E (l.take m)) O nx K):VRunO call P ops l E O nx K:=by
 rw [← List.take_append_drop m l]
 exact Qgi hd (fun _ _ _ _ _ _ h=>VWant.undef hd h) _ _ hc hq hK
end
structure D.Grid where
 Rows:Int
 Cols:Int
 Cells:ByteArray
structure D.Step where
 Kind:Int
 Word:ByteArray
 A:Int
 B:Int
def Qev : AK D.Step:=AK.iso (AK.pair (AK.int .i64) (AK.pair AK.string (AK.pair (AK.int .i64) (AK.int .i64)))) (fun x=>(x.Kind,x.Word,x.A,x.B))
def QdE (x:D.Step):Prop:=((Lit.int .i64 x.Kind).wf=true)∧(x.Word.size≤maxLen)∧((Lit.int .i64 x.A).wf=true)∧((Lit.int .i64 x.B).wf=true)
structure D.Clue where
 Sense:Int
 Play:_root_.List D.Step
def Qfu : AK D.Clue:=AK.iso (AK.pair (AK.int .i64) (AK.slice Qev)) (fun x=>(x.Sense,x.Play))
def Qef (x:D.Clue):Prop:=((Lit.int .i64 x.Sense).wf=true)∧((x.Play.length≤maxLen∧∀y∈x.Play,QdE y))
structure D.Slot where
 Number:Int
 Down:Bool
 Cell:Int
 Length:Int
theorem QgJ : Z3 Tryd.prog 91 Qev QdE:=Qan (Jk (P:=Tryd.prog) (t:=91) (fun x:D.Step=>(x.Kind,x.Word,x.A,x.B)) (fun x=>⟨x.1,x.2.1,x.2.2.1,x.2.2.2⟩) (fun _=>rfl) Tryd.underlying91 (by kernel_rfl) (ZQ Y (by kernel_rfl) (Z7 (k:= .i64) Tryd.underlying3) (ZQ Y (by kernel_rfl) (Ys Tryd.underlying9) (ZQ Y (by kernel_rfl) (Z7 (k:= .i64) Tryd.underlying3) (Qai Y (by kernel_rfl) (Z7 (k:= .i64) Tryd.underlying3)))))) (fun _ h=>h)
theorem QgG : Z3 Tryd.prog 36 Qfu Qef:=Qan (Jk (P:=Tryd.prog) (t:=36) (fun x:D.Clue=>(x.Sense,x.Play)) (fun x=>⟨x.1,x.2⟩) (fun _=>rfl) Tryd.underlying36 (by kernel_rfl) (ZQ Y (by kernel_rfl) (Z7 (k:= .i64) Tryd.underlying3) (Qai Y (by kernel_rfl) (JP Tryd.underlying34 (by kernel_rfl) (of_decide_eq_true (by kernel_rfl)) QgJ)))) (fun _ h=>h)
theorem Q4 : Qp Tryd.prog 3=some false:=by kernel_rfl
theorem Z9 : Tryd.prog.cellsOf 3=1:=by kernel_rfl
theorem if3 : (Tryd.prog.info? 3).isSome=true:=by kernel_rfl
theorem zo3 : QR Tryd.prog 3=some (.int .i64 0):=by kernel_rfl
theorem st4 : Qp Tryd.prog 4=some false:=by kernel_rfl
theorem sz4 : Tryd.prog.cellsOf 4=1:=by kernel_rfl
theorem if4 : (Tryd.prog.info? 4).isSome=true:=by kernel_rfl
theorem zo4 : QR Tryd.prog 4=some (.bool false):=by kernel_rfl
theorem zc4 : closedV (.bool false)=true:=by kernel_rfl
theorem sz5 : Tryd.prog.cellsOf 5=1:=by kernel_rfl
theorem zo5 : QR Tryd.prog 5=some (.int .u8 0):=by kernel_rfl
theorem st9 : Qp Tryd.prog 9=some false:=by kernel_rfl
theorem Ji : Tryd.prog.cellsOf 9=1:=by kernel_rfl
theorem if9 : (Tryd.prog.info? 9).isSome=true:=by kernel_rfl
theorem zo9 : QR Tryd.prog 9=some (.string ByteArray.empty):=by kernel_rfl
theorem zc9 : closedV (.string ByteArray.empty)=true:=by kernel_rfl
theorem Qgp : Qp Tryd.prog 34=some false:=by kernel_rfl
theorem QgD : Tryd.prog.cellsOf 34=1:=by kernel_rfl
theorem QgH : (Tryd.prog.info? 34).isSome=true:=by kernel_rfl
theorem Qei : Qp Tryd.prog 36=some true:=by kernel_rfl
theorem Qel : Tryd.prog.cellsOf 36=2:=by kernel_rfl
theorem Qa9 : Qp Tryd.prog 41=some false:=by kernel_rfl
theorem Qgo : Tryd.prog.cellsOf 41=1:=by kernel_rfl
theorem Qgk : (Tryd.prog.info? 41).isSome=true:=by kernel_rfl
theorem Qbj : Qp Tryd.prog 43=some true:=by kernel_rfl
theorem Qae : Tryd.prog.cellsOf 43=2:=by kernel_rfl
theorem Qgr : (Tryd.prog.info? 43).isSome=true:=by kernel_rfl
theorem Qfy : QR Tryd.prog 43=some (.agg #[.int .i64 0, .slice none 0 0]):=by kernel_rfl
theorem QfV : closedV (.agg #[.int .i64 0, .slice none 0 0])=true:=by kernel_rfl
theorem Qgj : Qp Tryd.prog 91=some true:=by kernel_rfl
theorem Qfc : Tryd.prog.cellsOf 91=4:=by kernel_rfl
theorem Qgn : (Tryd.prog.info? 91).isSome=true:=by kernel_rfl
theorem Qdb : Qp Tryd.prog 93=some true:=by kernel_rfl
theorem Zf : Tryd.prog.cellsOf 93=4:=by kernel_rfl
theorem ZR : (Tryd.prog.info? 93).isSome=true:=by kernel_rfl
theorem Qd0 : QR Tryd.prog 93=some (.agg #[.int .i64 0, .string ByteArray.empty, .int .i64 0, .int .i64 0]):=by kernel_rfl
theorem Qd1 : closedV (.agg #[.int .i64 0, .string ByteArray.empty, .int .i64 0, .int .i64 0])=true:=by kernel_rfl
theorem QfB (k o:Nat):Qh Tryd.prog 36 (.pointer (some ⟨k,o,none⟩)) 0=some (.pointer (some ⟨k,o+0,none⟩)):=by simp [Qh,Tryd.underlying36,if3,Z9]
theorem Qew (k o:Nat):Qh Tryd.prog 36 (.pointer (some ⟨k,o,none⟩)) 1=some (.pointer (some ⟨k,o+1,none⟩)):=by simp [Qh,Tryd.underlying36,QgH,QgD]
theorem QaU (k o:Nat):Qh Tryd.prog 43 (.pointer (some ⟨k,o,none⟩)) 0=some (.pointer (some ⟨k,o+0,none⟩)):=by simp [Qh,Tryd.underlying43,if3,Z9]
theorem ZM (k o:Nat):Qh Tryd.prog 43 (.pointer (some ⟨k,o,none⟩)) 1=some (.pointer (some ⟨k,o+1,none⟩)):=by simp [Qh,Tryd.underlying43,Qgk,Qgo]
theorem QfS (k o:Nat):Qh Tryd.prog 91 (.pointer (some ⟨k,o,none⟩)) 0=some (.pointer (some ⟨k,o+0,none⟩)):=by simp [Qh,Tryd.underlying91,if3,Z9]
theorem Qeq (k o:Nat):Qh Tryd.prog 91 (.pointer (some ⟨k,o,none⟩)) 1=some (.pointer (some ⟨k,o+1,none⟩)):=by simp [Qh,Tryd.underlying91,if9,Ji]
theorem QfZ (k o:Nat):Qh Tryd.prog 91 (.pointer (some ⟨k,o,none⟩)) 2=some (.pointer (some ⟨k,o+2,none⟩)):=by simp [Qh,Tryd.underlying91,if3,Z9]
theorem Qf6 (k o:Nat):Qh Tryd.prog 91 (.pointer (some ⟨k,o,none⟩)) 3=some (.pointer (some ⟨k,o+3,none⟩)):=by simp [Qh,Tryd.underlying91,if3,Z9]
theorem Qy (k o:Nat):Qh Tryd.prog 93 (.pointer (some ⟨k,o,none⟩)) 0=some (.pointer (some ⟨k,o+0,none⟩)):=by simp [Qh,Tryd.underlying93,if3,Z9]
theorem Y1 (k o:Nat):Qh Tryd.prog 93 (.pointer (some ⟨k,o,none⟩)) 1=some (.pointer (some ⟨k,o+1,none⟩)):=by simp [Qh,Tryd.underlying93,if9,Ji]
theorem Zt (k o:Nat):Qh Tryd.prog 93 (.pointer (some ⟨k,o,none⟩)) 2=some (.pointer (some ⟨k,o+2,none⟩)):=by simp [Qh,Tryd.underlying93,if3,Z9]
theorem Ze (k o:Nat):Qh Tryd.prog 93 (.pointer (some ⟨k,o,none⟩)) 3=some (.pointer (some ⟨k,o+3,none⟩)):=by simp [Qh,Tryd.underlying93,if3,Z9]
theorem follows : Tryd.prog.follows .mixedOrders=true:=by kernel_rfl
theorem QdR : Plain Tryd.prog:=by
 unfold Plain
 kernel_rfl
noncomputable instance : DecidableEq D.Step:=Classical.typeDecidableEq _
def Qa (m:Bool) (x:D.Step):List T:= [.int .i64 x.Kind, .str x.Word, .int .i64 x.A, .int .i64 x.B]
theorem okeStep : EncOk Qa 4:=⟨fun _ _=>rfl,fun x=>Qw (.int _ _) (Qw (.str _) (Qw (.int _ _) (Qw (.int _ _) (Z4)))),fun m x=>by simp only [Qa,fzL,AE.fz],fun m x=>Qw Y (Qw Y (Qw Y (Qw Y (Z4)))),fun x=>Qw Y (Qw Y (Qw Y (Qw Y (Z4))))⟩
def QD (x:D.Step):Nat:=ByteArray.size x.Word
theorem Qbg : Qej Qa:=fun _ _=>rfl
theorem Qfw : RK Qev Qa:=Qfo (Qb7 Qcy (Qb7 Qes (Qb7 Qcy Qcy))) (fun _=>rfl)
noncomputable instance : DecidableEq D.Clue:=Classical.typeDecidableEq _
def Qi (m:Bool) (x:D.Clue):List T:= [.int .i64 x.Sense, .sl m 4 (x.Play.map (Qa m))]
theorem Zw : EncOk Qi 2:=⟨fun _ _=>rfl,fun x=>Qw (.int _ _) (Qw (.sl _ _ (okeStep.cleanMap _)) (Z4)),fun m x=>by simp only [Qi,fzL,AE.fz,okeStep.fzMap],fun m x=>Qw Y (Qw Y (Z4)),fun x=>Qw Y (Qw Y (Z4))⟩
def QK (x:D.Clue):Nat:=(zL QD) x.Play
theorem QfN : RK Qfu Qi:=Qfo (Qb7 Qcy (Qgq Qfw okeStep Y)) (fun _=>rfl)
theorem U3 : Tryd.prog.underlying 3=some (.int .i64):=Tryd.underlying3
theorem U4 : Tryd.prog.underlying 4=some .bool:=Tryd.underlying4
theorem U5 : Tryd.prog.underlying 5=some (.int .u8):=Tryd.underlying5
theorem U9 : Tryd.prog.underlying 9=some .string:=Tryd.underlying9
theorem U34 : Tryd.prog.underlying 34=some (.slice 91):=Tryd.underlying34
theorem Y5 : Tryd.prog.underlying 37=some (.slice 9):=Tryd.underlying37
theorem YR : Tryd.prog.underlying 41=some (.slice 93):=Tryd.underlying41
theorem YJ : Tryd.prog.underlying 68=some (.slice 3):=Tryd.underlying68
theorem U88 : Tryd.prog.underlying 88=some (.slice 5):=Tryd.underlying88
theorem Qdi : Tryd.prog.underlying 128=some (.slice 4):=Tryd.underlying128
set_option maxRecDepth 20000
set_option maxHeartbeats 2000000
theorem QbA (n:Nat) (a:D.Step) (left:Int) (h0:0≤left) (h1:left≤(mx:Int)) (hg:QdE a):Pure (Qo Tryd.prog (n+1)) 65 [(T.agg (Qa false a)),(tI left)] (tI (Ya (QD a) left)):=by
 refine Pure.intro (rs:= [ResultVar.tmp 4]) Tryd.func65 Y Y Y (E0:= [(0,(T.agg (Qa false a))),(1,(tI left))]) Y ?_
 obtain ⟨hlim,hmx,hmax⟩:=QM
 obtain ⟨hg0,hg1,hg2,hg3⟩:=hg
 refine sr (kO (B.box (ts:=(Qa false a)) (tv (T.agg (Qa false a)) Y) nofun Y) (fO (OF.assign (VEv.int .i64 0)) (nt (sr (mO (tI left) Y (lf (tS a.Word) Y Qeq Y Y st9 (lO (B.lenS (tv (tS a.Word) Y) U9) (fO (B.sub (n:=(left - ((a.Word.size:Nat):Int))) (tv (tI left) Y) (tv (tN a.Word.size) Y) (by (rw [Qq (by omega)];done))) (aO (tI (left - ((a.Word.size:Nat):Int))) Y (nt (sq ?_)))))))))))
 refine sr (mO (tI (left - ((a.Word.size:Nat):Int))) Y (fO (xls (tv (tI (left - ((a.Word.size:Nat):Int))) Y) (VEv.int .i64 0)) (nt ?_)))
 refine cd ((left - ((a.Word.size:Nat):Int))<0) Y (fun fhc0=> ?_) fun fhc0=> ?_
 ·refine sr ?_
  refine fO (OF.assign (VEv.int .i64 (-1))) (nt (rt (tr (vi (n':=(-1)) Y ?_))))
  exact QaE (by simp only [QD];omega)
 refine sk (tn (sr (mO (tI (left - ((a.Word.size:Nat):Int))) Y (aO (tI (left - ((a.Word.size:Nat):Int))) Y (nt (rt (vi (n':=(left - ((a.Word.size:Nat):Int))) Y ?_)))))))
 rw [← Qc7 (z:=QD a) (l:=left) (by simp only [QD];omega)]
 all_goals rfl
theorem Qbd (n:Nat) (a:List D.Step) (left:Int) (h0:0≤left) (h1:left≤(mx:Int)) (hg:a.length≤maxLen∧∀x∈a,QdE x):Pure (Qo Tryd.prog (n+2)) 40 [(rd 4 Qa a),(tI left)] (tI (Ya (zL QD a) left)):=by
 refine Pure.intro (rs:= [ResultVar.tmp 4]) Tryd.func40 Y Y Y (E0:= [(0,(rd 4 Qa a)),(1,(tI left))]) Y ?_
 obtain ⟨hlim,hmx,hmax⟩:=QM
 obtain ⟨hg1,hg2⟩:=hg
 refine sr (fO (OF.assign (VEv.int .i64 0)) (nt (sr (mO (tI left) Y (mO (rd 4 Qa a) Y (lO (B.lenR (m:=a.length) (tv (rd 4 Qa a) Y) U34 (List.length_map ..)) (fO (B.sub (n:=(left - ((a.length:Nat):Int))) (tv (tI left) Y) (tv (tN a.length) Y) (by (rw [Qq (by omega)];done))) (aO (tI (left - ((a.length:Nat):Int))) Y (nt (sq (sr ?_)))))))))))
 refine mO (tI (left - ((a.length:Nat):Int))) Y (fO (xls (tv (tI (left - ((a.length:Nat):Int))) Y) (VEv.int .i64 0)) (nt ?_))
 refine cd ((left - ((a.length:Nat):Int))<0) Y (fun fhc0=> ?_) fun fhc0=> ?_
 ·refine sr ?_
  refine fO (OF.assign (VEv.int .i64 (-1))) (nt (rt (tr (vi (n':=(-1)) Y ?_))))
  exact SzI.early fhc0
 refine sk (tn (sq (sr (fO (OF.assign (VEv.int .i64 0)) (nt (VRun.block ?_))))))
 refine VRun.loop (A:=Nat×Int) (fun s_=> [(0,(rd 4 Qa a)),(1,(tI s_.2)),(5,(tN s_.1))]) (fun s_=>Yc []) 0 (fun s_=>SzI QD a left s_.1 s_.2) (fun s_=>a.length - s_.1) ((0,left - (a.length:Int)):Nat×Int) ?_ (Wk.mk (fun k=>k) ?_ ?_ ?_) ?_
 ·exact SzI.start h1 fhc0
 ·exact (b2 (bc ⟨(congrArg (T.int .i64) (show (left - ((a.length:Nat):Int))=(left - (a.length:Int)) from (by rfl))),rfl⟩ (b2 bn)))
 ·exact bn
 ·exact nd Y
 rintro ⟨i,r⟩ (hI':SzI QD a left i r)
 show VRun _ _ _ [(0,(rd 4 Qa a)),(1,(tI r)),(5,(tN i))] (Yc []) 0 _
 have hI2:=hI'.1
 have hI3:=hI'.2.1
 have hI4:=hI'.2.2.1
 refine sq (sr (mO (tN i) Y (mO (rd 4 Qa a) Y (lO (B.lenR (m:=a.length) (tv (rd 4 Qa a) Y) U34 (List.length_map ..)) (fO (YA (tv (tN i) Y) (tv (tN a.length) Y)) (nt ?_))))))
 refine cd (i<a.length) Y (fun fhc1=> ?_) fun fhc1=> ?_
 ·refine sk ?_
  refine tn (sq (VRun.block (sr (mO (rd 4 Qa a) Y (mO (tN i) Y ?_)))))
  obtain ⟨x1,hx1⟩:∃x,a[i]? =some x:=⟨_,List.getElem?_eq_getElem (by omega)⟩
  refine fO (OF.indexAddrR (row:=(Qa false x1)) (i:=i) (tv (rd 4 Qa a) Y) (tv (tN i) Y) Y (Qr _ hx1) U34 Qfc Qgn) (lO (OL.loadRn (us:=(Qa false x1)) (tv (T.rp (Qa false x1)) Y) Qgj Qfc (lb Y) Y) (mO (tI r) Y (cO (cS (vc (tv (T.agg (Qa false x1)) Y) (vc (tv (tI r) Y) vn)) (LendL.cons (lg okeStep) (lp Y ln)) (QbA (n+0) x1 r (by assumption) (by assumption) (by exact hg2 _ (List.mem_of_getElem? hx1))) Y Y) (aO (tI (Ya (QD x1) r)) Y (nt (sr (mO (tI (Ya (QD x1) r)) Y (fO (xls (tv (tI (Ya (QD x1) r)) Y) (VEv.int .i64 0)) (nt ?_)))))))))
  refine cd (Ya (QD x1) r<0) Y (fun fhc2=> ?_) fun fhc2=> ?_
  ·refine sr ?_
   refine fO (OF.assign (VEv.int .i64 (-1))) (nt (rt (vinB.r (tr (tr (vinB.r (tr (vi (n':=(-1)) Y ?_))))))))
   exact hI'.bad hx1 fhc2
  refine sk (vinB.n (tn (VRun.region (mO (tN i) Y (fO (Zk (tv (tN i) Y) (VEv.int .i64 1) (by omega)) (aO (tN (i+1)) Y (VRunO.nil (tn ?_))))))))
  refine ⟨((i+1,Ya (QD x1) r):Nat×Int),?_,?_,Wk.mk (fun k=>k) ?_ ?_ ?_⟩
  ·exact hI'.next hx1 fhc2
  ·omega
  ·exact (b2 (b2 (b2 bn)))
  ·exact bn
  ·exact nd Y
 refine VRun.exit (vthn.e (vthn.e (vinB.e (tn (sr (mO (tI r) Y (aO (tI r) Y (nt (rt (vi (n':=r) Y ?_))))))))))
 exact hI'.done fhc1
theorem QbE (n:Nat) (a:D.Clue) (left:Int) (h0:0≤left) (h1:left≤(mx:Int)) (hg:Qef a):Pure (Qo Tryd.prog (n+3)) 13 [(T.agg (Qi false a)),(tI left)] (tI (Ya (QK a) left)):=by
 refine Pure.intro (rs:= [ResultVar.tmp 4]) Tryd.func13 Y Y Y (E0:= [(0,(T.agg (Qi false a))),(1,(tI left))]) Y ?_
 obtain ⟨hlim,hmx,hmax⟩:=QM
 obtain ⟨hg0,hg1⟩:=hg
 refine sr (kO (B.box (ts:=(Qi false a)) (tv (T.agg (Qi false a)) Y) nofun Y) (fO (OF.assign (VEv.int .i64 0)) (nt (sr (lf (rd 4 Qa a.Play) Y Qew Y Y Qgp (mO (tI left) Y (cO (cS (vc (tv (rd 4 Qa a.Play) Y) (vc (tv (tI left) Y) vn)) (Zj Y) (Qbd (n+0) a.Play left (by assumption) (by assumption) (by assumption)) Y Y) (aO (tI (Ya (zL QD a.Play) left)) Y (nt (sq (sr ?_)))))))))))
 refine mO (tI (Ya (zL QD a.Play) left)) Y (fO (xls (tv (tI (Ya (zL QD a.Play) left)) Y) (VEv.int .i64 0)) (nt ?_))
 refine cd (Ya (zL QD a.Play) left<0) Y (fun fhc0=> ?_) fun fhc0=> ?_
 ·refine sr ?_
  refine fO (OF.assign (VEv.int .i64 (-1))) (nt (rt (tr (vi (n':=(-1)) Y ?_))))
  exact QaE (by have hlt:=Qeh fhc0;simp only [QK];omega)
 have hq0:=ZG fhc0
 refine sk (tn (sr (mO (tI (Ya (zL QD a.Play) left)) Y (aO (tI (Ya (zL QD a.Play) left)) Y (nt (rt (vi (n':=Ya (zL QD a.Play) left) Y ?_)))))))
 rw [← Qc7 (z:=QK a) (l:=left) (by simp only [QK];omega)]
 all_goals (simp only [QK];omega)
theorem J5 (n:Nat) (a:List ByteArray) (left:Int) (h0:0≤left) (h1:left≤(mx:Int)) (hg:a.length≤maxLen∧∀x∈a,x.size≤maxLen):Pure (Qo Tryd.prog (n+1)) 14 [(rd 1 Qd a),(tI left)] (tI (Ya (zL ByteArray.size a) left)):=by
 refine Pure.intro (rs:= [ResultVar.tmp 4]) Tryd.func14 Y Y Y (E0:= [(0,(rd 1 Qd a)),(1,(tI left))]) Y ?_
 obtain ⟨hlim,hmx,hmax⟩:=QM
 obtain ⟨hg1,hg2⟩:=hg
 refine sr (fO (OF.assign (VEv.int .i64 0)) (nt (sr (mO (tI left) Y (mO (rd 1 Qd a) Y (lO (B.lenR (m:=a.length) (tv (rd 1 Qd a) Y) Y5 (List.length_map ..)) (fO (B.sub (n:=(left - ((a.length:Nat):Int))) (tv (tI left) Y) (tv (tN a.length) Y) (by first | rfl | (rw [Qq (by omega)];omega) | (rw [Qq (by omega)];done))) (aO (tI (left - ((a.length:Nat):Int))) Y (nt (sq (sr ?_)))))))))))
 refine mO (tI (left - ((a.length:Nat):Int))) Y (fO (xls (tv (tI (left - ((a.length:Nat):Int))) Y) (VEv.int .i64 0)) (nt ?_))
 refine cd ((left - ((a.length:Nat):Int))<0) Y (fun fhc0=> ?_) fun fhc0=> ?_
 ·refine sr ?_
  refine fO (OF.assign (VEv.int .i64 (-1))) (nt (rt (tr (vi (n':=(-1)) Y ?_))))
  exact SzI.early fhc0
 refine sk (tn (sq (sr (fO (OF.assign (VEv.int .i64 0)) (nt (VRun.block ?_))))))
 refine VRun.loop (A:=Nat×Int) (fun s_=> [(0,(rd 1 Qd a)),(1,(tI s_.2)),(5,(tN s_.1))]) (fun s_=>Yc []) 0 (fun s_=>SzI ByteArray.size a left s_.1 s_.2) (fun s_=>a.length - s_.1) ((0,left - (a.length:Int)):Nat×Int) ?_ (Wk.mk (fun k=>k) ?_ ?_ ?_) ?_
 ·exact SzI.start h1 fhc0
 ·exact (b2 (bc ⟨(congrArg (T.int .i64) (show (left - ((a.length:Nat):Int))=(left - (a.length:Int)) from (by first | rfl | omega | (simp;done) | (push_cast;omega)))),rfl⟩ (b2 bn)))
 ·exact bn
 ·exact nd Y
 rintro ⟨i,r⟩ (hI':SzI ByteArray.size a left i r)
 show VRun _ _ _ [(0,(rd 1 Qd a)),(1,(tI r)),(5,(tN i))] (Yc []) 0 _
 have hI2:=hI'.1
 have hI3:=hI'.2.1
 have hI4:=hI'.2.2.1
 refine sq (sr (mO (tN i) Y (mO (rd 1 Qd a) Y (lO (B.lenR (m:=a.length) (tv (rd 1 Qd a) Y) Y5 (List.length_map ..)) (fO (YA (tv (tN i) Y) (tv (tN a.length) Y)) (nt ?_))))))
 refine cd (i<a.length) Y (fun fhc1=> ?_) fun fhc1=> ?_
 ·refine sk ?_
  refine tn (sq (VRun.block (sr (mO (tI r) Y (mO (rd 1 Qd a) Y (mO (tN i) Y ?_))))))
  obtain ⟨x1,hx1⟩:∃x,a[i]? =some x:=⟨_,List.getElem?_eq_getElem (by omega)⟩
  have hz1:=hg2 _ (List.mem_of_getElem? hx1)
  refine fO (OF.indexAddrR (row:=(Qd false x1)) (i:=i) (tv (rd 1 Qd a) Y) (tv (tN i) Y) Y (Qr _ hx1) Y5 Ji if9) (lO (OL.loadR1 (t:=(tS x1)) (tv (T.rp [(tS x1)]) Y) Y st9) (lO (B.lenS (tv (tS x1) Y) U9) (fO (B.sub (n:=(r - ((x1.size:Nat):Int))) (tv (tI r) Y) (tv (tN x1.size) Y) (by first | rfl | (rw [Qq (by omega)];omega) | (rw [Qq (by omega)];done))) (aO (tI (r - ((x1.size:Nat):Int))) Y (nt (sr (mO (tI (r - ((x1.size:Nat):Int))) Y (fO (xls (tv (tI (r - ((x1.size:Nat):Int))) Y) (VEv.int .i64 0)) (nt ?_)))))))))
  refine cd ((r - ((x1.size:Nat):Int))<0) Y (fun fhc2=> ?_) fun fhc2=> ?_
  ·refine sr ?_
   refine fO (OF.assign (VEv.int .i64 (-1))) (nt (rt (vinB.r (tr (tr (vinB.r (tr (vi (n':=(-1)) Y ?_))))))))
   exact hI'.bad' hx1 fhc2
  refine sk (vinB.n (tn (VRun.region (mO (tN i) Y (fO (Zk (tv (tN i) Y) (VEv.int .i64 1) (by omega)) (aO (tN (i+1)) Y (VRunO.nil (tn ?_))))))))
  refine ⟨((i+1,r - (x1.size:Int)):Nat×Int),?_,?_,Wk.mk (fun k=>k) ?_ ?_ ?_⟩
  ·exact hI'.next' hx1 fhc2
  ·first | omega | (simp only [];omega) | (show _<_;omega) | (simp;omega)
  ·exact (b2 (bc ⟨(congrArg (T.int .i64) (show (r - ((x1.size:Nat):Int))=(r - (x1.size:Int)) from (by first | rfl | omega | (simp;done) | (push_cast;omega)))),rfl⟩ (b2 bn)))
  ·exact bn
  ·exact nd Y
 refine VRun.exit (vthn.e (vthn.e (vinB.e (tn (sr (mO (tI r) Y (aO (tI r) Y (nt (rt (vi (n':=r) Y ?_))))))))))
 exact hI'.done fhc1
theorem QbJ (n:Nat) (a:D.Step):Pure (Qo Tryd.prog (n+1)) 67 [(T.agg (Qa false a))] (T.agg (Qa true a)):=by
 refine Pure.intro (rs:= [ResultVar.cell 2 93]) Tryd.func67 Y Y Y (E0:= [(0,(T.agg (Qa false a)))]) Y ?_
 obtain ⟨hlim,hmx,hmax⟩:=QM
 refine sr (kO (B.box (ts:=(Qa false a)) (tv (T.agg (Qa false a)) Y) nofun Y) (kO (B.alloc (t:=(T.agg [(tN 0),(tS ByteArray.empty),(tN 0),(tN 0)])) (ts:= [(tN 0),(tS ByteArray.empty),(tN 0),(tN 0)]) Qd0 Qd1 nofun (fun _=> .agg _ _ Y (Qaf (RL.cons (.int _ _) (RL.cons (.str _) (RL.cons (.int _ _) (RL.cons (.int _ _) (RL.nil _))))))) Y) (nt (sr (kO (B.alloc (t:=(T.agg [(tN 0),(tS ByteArray.empty),(tN 0),(tN 0)])) (ts:= [(tN 0),(tS ByteArray.empty),(tN 0),(tN 0)]) Qd0 Qd1 nofun (fun _=> .agg _ _ Y (Qaf (RL.cons (.int _ _) (RL.cons (.str _) (RL.cons (.int _ _) (RL.cons (.int _ _) (RL.nil _))))))) Y) (nt (sr (lf (tI a.Kind) Y QfS Y Y Q4 (fO (OF.fieldAddrO (tv (T.op 2 0) Y) Qy) (cO (B.storeO (us:= [(tI a.Kind)]) (ws:= [(tI a.Kind),(tS ByteArray.empty),(tN 0),(tN 0)]) (tv (T.op 2 0) Y) (tv (tI a.Kind) Y) nofun Y Y (lb Y) if3 Z9 (bc Y bn) Y) (nt ?_)))))))))))
 refine sr (lf (tS a.Word) Y Qeq Y Y st9 (fO (OF.fieldAddrO (tv (T.op 2 0) Y) Y1) (cO (B.storeO (us:= [(tS a.Word)]) (ws:= [(tI a.Kind),(tS a.Word),(tN 0),(tN 0)]) (tv (T.op 2 1) Y) (tv (tS a.Word) Y) nofun Y Y (lb Y) if9 Ji (bc Y bn) Y) (nt (sr (lf (tI a.A) Y QfZ Y Y Q4 (fO (OF.fieldAddrO (tv (T.op 2 0) Y) Zt) (cO (B.storeO (us:= [(tI a.A)]) (ws:= [(tI a.Kind),(tS a.Word),(tI a.A),(tN 0)]) (tv (T.op 2 2) Y) (tv (tI a.A) Y) nofun Y Y (lb Y) if3 Z9 (bc Y bn) Y) (nt (sr (lf (tI a.B) Y Qf6 Y Y Q4 ?_)))))))))))
 refine fO (OF.fieldAddrO (tv (T.op 2 0) Y) Ze) (cO (B.storeO (us:= [(tI a.B)]) (ws:= [(tI a.Kind),(tS a.Word),(tI a.A),(tI a.B)]) (tv (T.op 2 3) Y) (tv (tI a.B) Y) nofun Y Y (lb Y) if3 Z9 (bc Y bn) Y) (nt (sr (lO (OL.loadOn (us:=(Qa false a)) (tv (T.op 2 0) Y) Y Qdb Zf (lb Y) Y) (cO (B.storeW (us:=(Qa false a)) (tv (T.op 1 0) Y) (tv (T.agg (Qa false a)) Y) nofun Y Y Y ZR Zf (bc Y (bc Y (bc Y (bc Y bn))))) (nt (rt ?_)))))))
 refine vfin.eq (r':=(T.agg (Qa false a))) ?_ (vfin.r (VRes.celln (ws:=(Qa false a)) Y Y Qdb Zf (lb Y) Y VRes.nil) (Give.agg (GiveL.cons (Give.int _ _) (GiveL.cons (Give.str _) (GiveL.cons (Give.int _ _) (GiveL.cons (Give.int _ _) GiveL.nil (by decide)) (by decide)) (by decide)) (by decide))))
 rfl
theorem Qbk (n:Nat) (a:List D.Step) (ha:a.length≤mx):Pure (Qo Tryd.prog (n+2)) 42 [(rd 4 Qa a)] (T.sl true 4 (a.map (Qa true))):=by
 refine Pure.intro (rs:= [ResultVar.tmp 2]) Tryd.func42 Y Y Y (E0:= [(0,(rd 4 Qa a))]) Y ?_
 obtain ⟨hlim,hmx,hmax⟩:=QM
 refine sr (fO (OF.assign VEv.nils) (nt (sr (mO (rd 4 Qa a) Y (lO (B.lenR (m:=a.length) (tv (rd 4 Qa a) Y) U34 (List.length_map ..)) (kO (B.makeZ (n:=a.length) (m:=((List.replicate a.length (D.Step.mk 0 ByteArray.empty 0 0)).map (Qa true)).length) (rows:=((List.replicate a.length (D.Step.mk 0 ByteArray.empty 0 0)).map (Qa true))) (zr:=(Qa true (D.Step.mk 0 ByteArray.empty 0 0))) (tv (tN a.length) Y) (tv (tN a.length) Y) Y YR Qd0 Qd1 Y (by rw [Zf];decide) (by omega) (of_decide_eq_true (by kernel_rfl)) (Z0.int (Z0.str (Z0.int (Z0.int Z0.nil)))) Zf (List.map_replicate ..).symm (by rw [List.length_map,List.length_replicate])) (aO (T.os 4 0 0 (((List.replicate a.length (D.Step.mk 0 ByteArray.empty 0 0)).map (Qa true)).length)) Y (nt (sq (sr (fO (OF.assign (VEv.int .i64 0)) ?_)))))))))))
 refine nt (VRun.block ?_)
 have he1:(List.replicate a.length (D.Step.mk 0 ByteArray.empty 0 0))=(a.take 0++List.replicate (a.length - 0) (D.Step.mk 0 ByteArray.empty 0 0)):=by rfl
 refine VRun.loop (A:=Nat) (fun s_=> [(0,(rd 4 Qa a)),(2,T.nils),(3,(T.os 4 0 0 (((a.take s_++List.replicate (a.length - s_) (D.Step.mk 0 ByteArray.empty 0 0)).map (Qa true)).length))),(4,(tN s_))]) (fun s_=>Yc [(0,(Obj.rows 4 ((a.take s_++List.replicate (a.length - s_) (D.Step.mk 0 ByteArray.empty 0 0)).map (Qa true))))]) 1 (fun s_=>s_≤a.length) (fun s_=>a.length - s_) (0:Nat) ?_ (Wk.mk (fun k=>k) ?_ ?_ ?_) ?_
 ·(simp;done)
 ·exact (b2 (b2 (bc ⟨(congrArg (fun l_=>T.os 4 0 0 (List.map (Qa true) l_).length) he1),rfl⟩ (b2 bn))))
 ·exact (bc ⟨(congrArg (fun l_=>some (Obj.rows 4 (List.map (Qa true) l_))) he1),(lb Y),rfl⟩ bn)
 ·exact nd Y
 rintro i (hI':i≤a.length)
 show VRun _ _ _ [(0,(rd 4 Qa a)),(2,T.nils),(3,(T.os 4 0 0 (((a.take i++List.replicate (a.length - i) (D.Step.mk 0 ByteArray.empty 0 0)).map (Qa true)).length))),(4,(tN i))] (Yc [(0,(Obj.rows 4 ((a.take i++List.replicate (a.length - i) (D.Step.mk 0 ByteArray.empty 0 0)).map (Qa true))))]) 1 _
 have hfl:=QdJ (w:=(D.Step.mk 0 ByteArray.empty 0 0)) hI'
 refine sq (sr (mO (tN i) Y (mO (rd 4 Qa a) Y (lO (B.lenR (m:=a.length) (tv (rd 4 Qa a) Y) U34 (List.length_map ..)) (fO (YA (tv (tN i) Y) (tv (tN a.length) Y)) (nt ?_))))))
 refine cd (i<a.length) Y (fun fhc0=> ?_) fun fhc0=> ?_
 ·refine sk ?_
  refine tn (sq (VRun.block (VRun.region (mO (T.os 4 0 0 (((a.take i++List.replicate (a.length - i) (D.Step.mk 0 ByteArray.empty 0 0)).map (Qa true)).length)) Y (mO (tN i) Y (mO (rd 4 Qa a) Y (mO (tN i) Y ?_)))))))
  obtain ⟨x1,hx1⟩:∃x,a[i]? =some x:=⟨_,List.getElem?_eq_getElem (by omega)⟩
  refine fO (OF.indexAddrR (row:=(Qa false x1)) (i:=i) (tv (rd 4 Qa a) Y) (tv (tN i) Y) Y (Qr _ hx1) U34 Qfc Qgn) (lO (OL.loadRn (us:=(Qa false x1)) (tv (T.rp (Qa false x1)) Y) Qgj Qfc (lb Y) Y) (cO (cS (vc (tv (T.agg (Qa false x1)) Y) vn) (LendL.cons (lg okeStep) ln) (QbJ (n+0) x1) Y Y) ?_))
  obtain ⟨x2,hx2⟩:∃x,(a.take i++List.replicate (a.length - i) (D.Step.mk 0 ByteArray.empty 0 0))[i]? =some x:=⟨_,List.getElem?_eq_getElem (by omega)⟩
  refine fO (B.indexAddrO (i:=i) (tv (T.os 4 0 0 (((a.take i++List.replicate (a.length - i) (D.Step.mk 0 ByteArray.empty 0 0)).map (Qa true)).length)) Y) (tv (tN i) Y) Y (by (simp only [List.length_map];omega)) YR Zf ZR) (cO (B.storeP (us:=(Qa true x1)) (rows':=(((a.take i++List.replicate (a.length - i) (D.Step.mk 0 ByteArray.empty 0 0)).set i x1).map (Qa true))) (row:=(Qa true x2)) (tv (T.orp 4 0 i 0) Y) (tv (T.agg (Qa true x1)) Y) nofun Y (Qr _ hx2) Y (lb Y) ZR Zf (bc Y (bc Y (bc Y (bc Y bn)))) (by intro r hr t ht;obtain ⟨x,_,rfl⟩:=List.mem_map.1 hr;rw [Qbg] at ht;exact Q0 (okeStep.pl _ t ht)) (Zi Y)) (VRunO.nil (vinB.n (tn (VRun.region (mO (tN i) Y (fO (Zk (tv (tN i) Y) (VEv.int .i64 1) (by omega)) (aO (tN (i+1)) Y (VRunO.nil (tn ?_))))))))))
  have he2:((a.take i++List.replicate (a.length - i) (D.Step.mk 0 ByteArray.empty 0 0)).set i x1)=(a.take (i+1)++List.replicate (a.length - (i+1)) (D.Step.mk 0 ByteArray.empty 0 0)):=by exact JY hx1
  refine ⟨(i+1:Nat),?_,?_,Wk.mk (fun k=>k) ?_ ?_ ?_⟩
  ·trivial
  ·omega
  ·exact (b2 (b2 (bc ⟨(congrArg (fun n_=>T.os 4 0 0 n_) (show ((a.take i++List.replicate (a.length - i) (D.Step.mk 0 ByteArray.empty 0 0)).map (Qa true)).length=((a.take (i+1)++List.replicate (a.length - (i+1)) (D.Step.mk 0 ByteArray.empty 0 0)).map (Qa true)).length from (by (simp only [List.length_map,List.length_set,List.length_append,List.length_take,List.length_replicate,List.length_cons,List.length_nil];omega)))),rfl⟩ (b2 bn))))
  ·exact (bc ⟨(congrArg (fun l_=>some (Obj.rows 4 (List.map (Qa true) l_))) he2),(lb Y),rfl⟩ bn)
  ·exact nd Y
 refine VRun.exit (vthn.e (vthn.e (vinB.e (tn (sr (mO (T.os 4 0 0 (((a.take i++List.replicate (a.length - i) (D.Step.mk 0 ByteArray.empty 0 0)).map (Qa true)).length)) Y (aO (T.os 4 0 0 (((a.take i++List.replicate (a.length - i) (D.Step.mk 0 ByteArray.empty 0 0)).map (Qa true)).length)) Y (nt (rt ?_)))))))))
 refine vfin.eq (r':=(T.sl true 4 ((a.take i++List.replicate (a.length - i) (D.Step.mk 0 ByteArray.empty 0 0)).map (Qa true)))) ?_ (vfin.r (VRes.tmp (t:=(T.os 4 0 0 (((a.take i++List.replicate (a.length - i) (D.Step.mk 0 ByteArray.empty 0 0)).map (Qa true)).length))) Y VRes.nil) (Give.os Y Y (okeStep.cleanMap _)))
 refine congrArg (fun l_=>T.sl true 4 (List.map (Qa true) l_)) ?_
 exact QbP fhc0
theorem ZH (n:Nat) (a:D.Clue) (ha:QK a≤mx):Pure (Qo Tryd.prog (n+3)) 16 [(T.agg (Qi false a))] (T.agg (Qi true a)):=by
 refine Pure.intro (rs:= [ResultVar.cell 2 43]) Tryd.func16 Y Y Y (E0:= [(0,(T.agg (Qi false a)))]) Y ?_
 obtain ⟨hlim,hmx,hmax⟩:=QM
 simp only [QK] at ha
 have hla_Play:=Zr (z:=QD) a.Play
 refine sr (kO (B.box (ts:=(Qi false a)) (tv (T.agg (Qi false a)) Y) nofun Y) (kO (B.alloc (t:=(T.agg [(tN 0),T.nils])) (ts:= [(tN 0),T.nils]) Qfy QfV nofun (fun _=> .agg _ _ Y (Qaf (RL.cons (.int _ _) (RL.cons (.nils) (RL.nil _))))) Y) (nt (sr (kO (B.alloc (t:=(T.agg [(tN 0),T.nils])) (ts:= [(tN 0),T.nils]) Qfy QfV nofun (fun _=> .agg _ _ Y (Qaf (RL.cons (.int _ _) (RL.cons (.nils) (RL.nil _))))) Y) (nt (sr (lf (tI a.Sense) Y QfB Y Y Q4 (fO (OF.fieldAddrO (tv (T.op 2 0) Y) QaU) (cO (B.storeO (us:= [(tI a.Sense)]) (ws:= [(tI a.Sense),T.nils]) (tv (T.op 2 0) Y) (tv (tI a.Sense) Y) nofun Y Y (lb Y) if3 Z9 (bc Y bn) Y) (nt ?_)))))))))))
 refine sr (lf (rd 4 Qa a.Play) Y Qew Y Y Qgp (cO (OC.callF (r':=(T.os 4 3 0 ((a.Play.map (Qa true)).length))) (objs:= [(Obj.rows 4 (a.Play.map (Qa true)))]) Y (vc (tv (rd 4 Qa a.Play) Y) vn) (Zj Y) (Qbk (n+0) a.Play (by omega)) Y) (fO (OF.fieldAddrO (tv (T.op 2 0) Y) ZM) (cO (B.storeO (us:= [(T.os 4 3 0 ((a.Play.map (Qa true)).length))]) (ws:= [(tI a.Sense),(T.os 4 3 0 ((a.Play.map (Qa true)).length))]) (tv (T.op 2 1) Y) (tv (T.os 4 3 0 ((a.Play.map (Qa true)).length)) Y) nofun Y Y (lb Y) Qgk Qgo (bc Y bn) Y) (nt (sr (lO (OL.loadOn (us:= [(tI a.Sense),(T.os 4 3 0 ((a.Play.map (Qa true)).length))]) (tv (T.op 2 0) Y) Y Qbj Qae (lb Y) Y) (cO (B.storeW (us:= [(tI a.Sense),(T.os 4 3 0 ((a.Play.map (Qa true)).length))]) (tv (T.op 1 0) Y) (tv (T.agg [(tI a.Sense),(T.os 4 3 0 ((a.Play.map (Qa true)).length))]) Y) nofun Y Y Y Qgr Qae (bc Y (bc Y bn))) (nt (rt ?_))))))))))
 refine vfin.eq (r':=(T.agg [(tI a.Sense),(T.sl true 4 (a.Play.map (Qa true)))])) ?_ (vfin.r (VRes.celln (ws:= [(tI a.Sense),(T.os 4 3 0 ((a.Play.map (Qa true)).length))]) Y Y Qbj Qae (lb Y) Y VRes.nil) (Give.agg (GiveL.cons (Give.int _ _) (GiveL.cons (Give.os Y Y (okeStep.cleanMap _)) GiveL.nil (by decide)) (by decide))))
 rfl
theorem Q9 (n:Nat) (a:List ByteArray) (ha:a.length≤mx):Pure (Qo Tryd.prog (n+1)) 17 [(rd 1 Qd a)] (T.sl true 1 (a.map (Qd true))):=by
 refine Pure.intro (rs:= [ResultVar.tmp 2]) Tryd.func17 Y Y Y (E0:= [(0,(rd 1 Qd a))]) Y ?_
 obtain ⟨hlim,hmx,hmax⟩:=QM
 refine sr (fO (OF.assign VEv.nils) (nt (sr (mO (rd 1 Qd a) Y (lO (B.lenR (m:=a.length) (tv (rd 1 Qd a) Y) Y5 (List.length_map ..)) (kO (B.makeZ (n:=a.length) (m:=((List.replicate a.length ByteArray.empty).map (Qd true)).length) (rows:=((List.replicate a.length ByteArray.empty).map (Qd true))) (zr:=(Qd true ByteArray.empty)) (tv (tN a.length) Y) (tv (tN a.length) Y) Y Y5 zo9 zc9 Y (by rw [Ji];decide) (by first | omega | (simp only [List.length_map];omega) | (simp only [List.length_map,List.length_append,List.length_cons,List.length_nil,List.length_replicate,List.length_set,List.length_drop,List.length_take,QY] at *;omega)) (of_decide_eq_true (by kernel_rfl)) (Z0.str Z0.nil) Ji (List.map_replicate ..).symm (by rw [List.length_map,List.length_replicate])) (aO (T.os 1 0 0 (((List.replicate a.length ByteArray.empty).map (Qd true)).length)) Y (nt (sq (sr (fO (OF.assign (VEv.int .i64 0)) ?_)))))))))))
 refine nt (VRun.block ?_)
 have he1:(List.replicate a.length ByteArray.empty)=(a.take 0++List.replicate (a.length - 0) ByteArray.empty):=by first | rfl | (exact JY hx1) | (simp;done) | omega
 refine VRun.loop (A:=Nat) (fun s_=> [(0,(rd 1 Qd a)),(2,T.nils),(3,(T.os 1 0 0 (((a.take s_++List.replicate (a.length - s_) ByteArray.empty).map (Qd true)).length))),(4,(tN s_))]) (fun s_=>Yc [(0,(Obj.rows 1 ((a.take s_++List.replicate (a.length - s_) ByteArray.empty).map (Qd true))))]) 1 (fun s_=>s_≤a.length) (fun s_=>a.length - s_) (0:Nat) ?_ (Wk.mk (fun k=>k) ?_ ?_ ?_) ?_
 ·first | trivial | (simp;done) | omega | (constructor<;>simp)
 ·exact (b2 (b2 (bc ⟨(congrArg (fun l_=>T.os 1 0 0 (List.map (Qd true) l_).length) he1),rfl⟩ (b2 bn))))
 ·exact (bc ⟨(congrArg (fun l_=>some (Obj.rows 1 (List.map (Qd true) l_))) he1),(lb Y),rfl⟩ bn)
 ·exact nd Y
 rintro i (hI':i≤a.length)
 show VRun _ _ _ [(0,(rd 1 Qd a)),(2,T.nils),(3,(T.os 1 0 0 (((a.take i++List.replicate (a.length - i) ByteArray.empty).map (Qd true)).length))),(4,(tN i))] (Yc [(0,(Obj.rows 1 ((a.take i++List.replicate (a.length - i) ByteArray.empty).map (Qd true))))]) 1 _
 have hfl:=QdJ (w:=ByteArray.empty) hI'
 refine sq (sr (mO (tN i) Y (mO (rd 1 Qd a) Y (lO (B.lenR (m:=a.length) (tv (rd 1 Qd a) Y) Y5 (List.length_map ..)) (fO (YA (tv (tN i) Y) (tv (tN a.length) Y)) (nt ?_))))))
 refine cd (i<a.length) Y (fun fhc0=> ?_) fun fhc0=> ?_
 ·refine sk ?_
  refine tn (sq (VRun.block (VRun.region (mO (T.os 1 0 0 (((a.take i++List.replicate (a.length - i) ByteArray.empty).map (Qd true)).length)) Y (mO (tN i) Y (mO (rd 1 Qd a) Y (mO (tN i) Y ?_)))))))
  obtain ⟨x1,hx1⟩:∃x,a[i]? =some x:=⟨_,List.getElem?_eq_getElem (by omega)⟩
  refine fO (OF.indexAddrR (row:=(Qd false x1)) (i:=i) (tv (rd 1 Qd a) Y) (tv (tN i) Y) Y (Qr _ hx1) Y5 Ji if9) (lO (OL.loadR1 (t:=(tS x1)) (tv (T.rp [(tS x1)]) Y) Y st9) ?_)
  obtain ⟨x2,hx2⟩:∃x,(a.take i++List.replicate (a.length - i) ByteArray.empty)[i]? =some x:=⟨_,List.getElem?_eq_getElem (by first | omega | (simp only [List.length_map];omega) | (simp only [List.length_map,List.length_append,List.length_cons,List.length_nil,List.length_replicate,List.length_set,List.length_drop,List.length_take,QY] at *;omega))⟩
  refine fO (B.indexAddrO (i:=i) (tv (T.os 1 0 0 (((a.take i++List.replicate (a.length - i) ByteArray.empty).map (Qd true)).length)) Y) (tv (tN i) Y) Y (by first | omega | (simp only [List.length_map];omega) | (simp only [List.length_map,List.length_append,List.length_cons,List.length_nil,List.length_replicate,List.length_set,List.length_drop,List.length_take,QY] at *;omega)) Y5 Ji if9) (cO (B.storeP (us:= [(tS x1)]) (rows':=(((a.take i++List.replicate (a.length - i) ByteArray.empty).set i x1).map (Qd true))) (row:=(Qd true x2)) (tv (T.orp 1 0 i 0) Y) (tv (tS x1) Y) nofun Y (Qr _ hx2) Y (lb Y) if9 Ji (bc Y bn) (by intro r hr t ht;obtain ⟨x,_,rfl⟩:=List.mem_map.1 hr;rw [Qfq] at ht;exact Q0 (okStr.pl _ t ht)) (Zi Y)) (VRunO.nil (vinB.n (tn (VRun.region (mO (tN i) Y (fO (Zk (tv (tN i) Y) (VEv.int .i64 1) (by omega)) (aO (tN (i+1)) Y (VRunO.nil (tn ?_))))))))))
  have he2:((a.take i++List.replicate (a.length - i) ByteArray.empty).set i x1)=(a.take (i+1)++List.replicate (a.length - (i+1)) ByteArray.empty):=by first | rfl | (exact JY hx1) | (simp;done) | omega
  refine ⟨(i+1:Nat),?_,?_,Wk.mk (fun k=>k) ?_ ?_ ?_⟩
  ·first | trivial | omega | (simp;done) | exact ⟨by omega,hI'.2⟩
  ·first | omega | (simp only [];omega) | (show _<_;omega) | (simp;omega)
  ·exact (b2 (b2 (bc ⟨(congrArg (fun n_=>T.os 1 0 0 n_) (show ((a.take i++List.replicate (a.length - i) ByteArray.empty).map (Qd true)).length=((a.take (i+1)++List.replicate (a.length - (i+1)) ByteArray.empty).map (Qd true)).length from (by first | rfl | (simp only [List.length_map];omega) | (simp only [List.length_map,List.length_set,List.length_append,List.length_take,List.length_replicate,List.length_cons,List.length_nil];omega)))),rfl⟩ (b2 bn))))
  ·exact (bc ⟨(congrArg (fun l_=>some (Obj.rows 1 (List.map (Qd true) l_))) he2),(lb Y),rfl⟩ bn)
  ·exact nd Y
 refine VRun.exit (vthn.e (vthn.e (vinB.e (tn (sr (mO (T.os 1 0 0 (((a.take i++List.replicate (a.length - i) ByteArray.empty).map (Qd true)).length)) Y (aO (T.os 1 0 0 (((a.take i++List.replicate (a.length - i) ByteArray.empty).map (Qd true)).length)) Y (nt (rt ?_)))))))))
 refine vfin.eq (r':=(T.sl true 1 ((a.take i++List.replicate (a.length - i) ByteArray.empty).map (Qd true)))) ?_ (vfin.r (VRes.tmp (t:=(T.os 1 0 0 (((a.take i++List.replicate (a.length - i) ByteArray.empty).map (Qd true)).length))) Y VRes.nil) (Give.os Y Y (okStr.cleanMap _)))
 refine congrArg (fun l_=>T.sl true 1 (List.map (Qd true) l_)) ?_
 exact QbP fhc0
theorem Qby (n:Nat) (a:D.Step) (b:D.Step):Pure (Qo Tryd.prog (n+1)) 69 [(T.agg (Qa false a)),(T.agg (Qa false b))] (tB (decide (a=b))):=by
 refine Pure.intro (rs:= [ResultVar.tmp 4]) Tryd.func69 Y Y Y (E0:= [(0,(T.agg (Qa false a))),(1,(T.agg (Qa false b)))]) Y ?_
 obtain ⟨hlim,hmx,hmax⟩:=QM
 refine sr (kO (B.box (ts:=(Qa false a)) (tv (T.agg (Qa false a)) Y) nofun Y) (kO (B.box (ts:=(Qa false b)) (tv (T.agg (Qa false b)) Y) nofun Y) (fO (OF.assign (VEv.bool false)) (nt (sq (sr (lf (tI a.Kind) Y Qy Y Y Q4 (lf (tI b.Kind) Y Qy Y Y Q4 (fO (xne (tv (tI a.Kind) Y) (tv (tI b.Kind) Y)) (nt ?_))))))))))
 refine cn (a.Kind=b.Kind) Y (fun fhc0=> ?_) fun fhc0=> ?_
 ·refine sr ?_
  refine fO (OF.assign (VEv.bool false)) (nt (rt (tr (vb (b':=false) Y ?_))))
  obtain ⟨a0,a1,a2,a3⟩:=a
  obtain ⟨b0,b1,b2,b3⟩:=b
  simp_all
 refine sk (tn (sq (sr (lf (tS a.Word) Y Y1 Y Y st9 (lf (tS b.Word) Y Y1 Y Y st9 (fO (B.sneq (c:=(!(decide (a.Word=b.Word)))) (tv (tS a.Word) Y) (tv (tS b.Word) Y) Y) (nt ?_)))))))
 refine cn (a.Word=b.Word) Y (fun fhc1=> ?_) fun fhc1=> ?_
 ·refine sr ?_
  refine fO (OF.assign (VEv.bool false)) (nt (rt (tr (vb (b':=false) Y ?_))))
  obtain ⟨a0,a1,a2,a3⟩:=a
  obtain ⟨b0,b1,b2,b3⟩:=b
  simp_all
 refine sk (tn (sq (sr (lf (tI a.A) Y Zt Y Y Q4 (lf (tI b.A) Y Zt Y Y Q4 (fO (xne (tv (tI a.A) Y) (tv (tI b.A) Y)) (nt ?_)))))))
 refine cn (a.A=b.A) Y (fun fhc2=> ?_) fun fhc2=> ?_
 ·refine sr ?_
  refine fO (OF.assign (VEv.bool false)) (nt (rt (tr (vb (b':=false) Y ?_))))
  obtain ⟨a0,a1,a2,a3⟩:=a
  obtain ⟨b0,b1,b2,b3⟩:=b
  simp_all
 refine sk (tn (sq (sr (lf (tI a.B) Y Ze Y Y Q4 (lf (tI b.B) Y Ze Y Y Q4 (fO (xne (tv (tI a.B) Y) (tv (tI b.B) Y)) (nt ?_)))))))
 refine cn (a.B=b.B) Y (fun fhc3=> ?_) fun fhc3=> ?_
 ·refine sr ?_
  refine fO (OF.assign (VEv.bool false)) (nt (rt (tr (vb (b':=false) Y ?_))))
  obtain ⟨a0,a1,a2,a3⟩:=a
  obtain ⟨b0,b1,b2,b3⟩:=b
  simp_all
 refine sk (tn (sr (fO (OF.assign (VEv.bool true)) (nt (rt (vb (b':=true) Y ?_))))))
 obtain ⟨a0,a1,a2,a3⟩:=a
 obtain ⟨b0,b1,b2,b3⟩:=b
 simp_all
theorem Qbe (n:Nat) (a:List D.Step) (b:List D.Step) (hla:a.length≤mx) (hlb:b.length≤mx):Pure (Qo Tryd.prog (n+2)) 46 [(rd 4 Qa a),(rd 4 Qa b)] (tB (decide (a=b))):=by
 refine Pure.intro (rs:= [ResultVar.tmp 4]) Tryd.func46 Y Y Y (E0:= [(0,(rd 4 Qa a)),(1,(rd 4 Qa b))]) Y ?_
 obtain ⟨hlim,hmx,hmax⟩:=QM
 refine sr (fO (OF.assign (VEv.bool false)) (nt (sq (sr (mO (rd 4 Qa a) Y (lO (B.lenR (m:=a.length) (tv (rd 4 Qa a) Y) YR (List.length_map ..)) (mO (rd 4 Qa b) Y (lO (B.lenR (m:=b.length) (tv (rd 4 Qa b) Y) YR (List.length_map ..)) (fO (Qe4 (tv (tN a.length) Y) (tv (tN b.length) Y)) (nt ?_))))))))))
 refine cn (a.length=b.length) Y (fun fhc0=> ?_) fun fhc0=> ?_
 ·refine sr ?_
  refine fO (OF.assign (VEv.bool false)) (nt (rt (tr (vb (b':=false) Y ?_))))
  symm;rw [decide_eq_false_iff_not];rintro rfl;exact fhc0 Y
 refine sk (tn (sq (sr (fO (OF.assign (VEv.int .i64 0)) (nt (VRun.block ?_))))))
 refine VRun.loop (A:=Nat) (fun s_=> [(0,(rd 4 Qa a)),(1,(rd 4 Qa b)),(5,(tN s_))]) (fun s_=>Yc []) 0 (fun s_=>s_≤a.length∧∀j,j<s_→a[j]? =b[j]?) (fun s_=>a.length - s_) (0:Nat) ?_ (Wk.mk (fun k=>k) ?_ ?_ ?_) ?_
 ·(simp;done)
 ·exact (b2 (b2 (b2 bn)))
 ·exact bn
 ·exact nd Y
 rintro i (hI':i≤a.length∧∀j,j<i→a[j]? =b[j]?)
 show VRun _ _ _ [(0,(rd 4 Qa a)),(1,(rd 4 Qa b)),(5,(tN i))] (Yc []) 0 _
 refine sq (sr (mO (tN i) Y (mO (rd 4 Qa a) Y (lO (B.lenR (m:=a.length) (tv (rd 4 Qa a) Y) YR (List.length_map ..)) (fO (YA (tv (tN i) Y) (tv (tN a.length) Y)) (nt ?_))))))
 refine cd (i<a.length) Y (fun fhc1=> ?_) fun fhc1=> ?_
 ·refine sk ?_
  refine tn (sq (VRun.block (sq (VRun.draw (B:= [[],[],[1,0],[0,1,2],[],[],[5,4],[4,5,6],[6,5,4,7,2,1,0,3],[3,0,1,2,7,4,5,6,8]]) (by kernel_rfl) (by kernel_rfl) (mD (rd 4 Qa a) Y Y (mD (tN i) Y Y ?_))))))
  obtain ⟨x1,hx1⟩:∃x,a[i]? =some x:=⟨_,List.getElem?_eq_getElem (by omega)⟩
  refine fD (OF.indexAddrR (row:=(Qa false x1)) (i:=i) (tv (rd 4 Qa a) Y) (tv (tN i) Y) Y (Qr _ hx1) YR Zf ZR) Y Y (lD (OL.loadRn (us:=(Qa false x1)) (tv (T.rp (Qa false x1)) Y) Qdb Zf (lb Y) Y) Y Y (mD (rd 4 Qa b) Y Y (mD (tN i) Y Y ?_)))
  obtain ⟨x2,hx2⟩:∃x,b[i]? =some x:=⟨_,List.getElem?_eq_getElem (by omega)⟩
  refine fD (OF.indexAddrR (row:=(Qa false x2)) (i:=i) (tv (rd 4 Qa b) Y) (tv (tN i) Y) Y (Qr _ hx2) YR Zf ZR) Y Y (lD (OL.loadRn (us:=(Qa false x2)) (tv (T.rp (Qa false x2)) Y) Qdb Zf (lb Y) Y) Y Y (VRunD.quiet (bi:= [6,5,4,7,2,1,0,3]) Y VWant.always Y Y Y bn (cS (vc (tv (T.agg (Qa false x1)) Y) (vc (tv (T.agg (Qa false x2)) Y) vn)) (LendL.cons (lg okeStep) (LendL.cons (lg okeStep) ln)) (Qby (n+0) x1 x2) Y Y) (fD (QZ (tv (tB (decide (x1=x2))) Y)) Y Y (VRunD.nil (tn ?_)))))
  refine cn (x1=x2) Y (fun fhc2=> ?_) fun fhc2=> ?_
  ·refine sr ?_
   refine fO (OF.assign (VEv.bool false)) (nt (rt (vinB.r (tr (tr (vinB.r (tr (vb (b':=false) Y ?_))))))))
   symm;rw [decide_eq_false_iff_not];exact QbQ hx1 hx2 fhc2
  refine sk (vinB.n (tn (VRun.region (mO (tN i) Y (fO (Zk (tv (tN i) Y) (VEv.int .i64 1) (by omega)) (aO (tN (i+1)) Y (VRunO.nil (tn ?_))))))))
  refine ⟨(i+1:Nat),?_,?_,Wk.mk (fun k=>k) ?_ ?_ ?_⟩
  ·exact Qbf hI' hx1 hx2 fhc2
  ·omega
  ·exact (b2 (b2 (b2 bn)))
  ·exact bn
  ·exact nd Y
 refine VRun.exit (vthn.e (vthn.e (vinB.e (tn (sr (fO (OF.assign (VEv.bool true)) (nt (rt (vb (b':=true) Y ?_)))))))))
 symm;rw [decide_eq_true_eq];exact QbT hI' fhc0 fhc1
theorem Qbv (n:Nat) (a:D.Clue) (b:D.Clue) (ha:QK a≤mx) (hb:QK b≤mx):Pure (Qo Tryd.prog (n+3)) 20 [(T.agg (Qi false a)),(T.agg (Qi false b))] (tB (decide (a=b))):=by
 refine Pure.intro (rs:= [ResultVar.tmp 4]) Tryd.func20 Y Y Y (E0:= [(0,(T.agg (Qi false a))),(1,(T.agg (Qi false b)))]) Y ?_
 obtain ⟨hlim,hmx,hmax⟩:=QM
 simp only [QK] at ha hb
 have hla_Play:=Zr (z:=QD) a.Play
 have hlb_Play:=Zr (z:=QD) b.Play
 refine sr (kO (B.box (ts:=(Qi false a)) (tv (T.agg (Qi false a)) Y) nofun Y) (kO (B.box (ts:=(Qi false b)) (tv (T.agg (Qi false b)) Y) nofun Y) (fO (OF.assign (VEv.bool false)) (nt (sq (sr (lf (tI a.Sense) Y QaU Y Y Q4 (lf (tI b.Sense) Y QaU Y Y Q4 (fO (xne (tv (tI a.Sense) Y) (tv (tI b.Sense) Y)) (nt ?_))))))))))
 refine cn (a.Sense=b.Sense) Y (fun fhc0=> ?_) fun fhc0=> ?_
 ·refine sr ?_
  refine fO (OF.assign (VEv.bool false)) (nt (rt (tr (vb (b':=false) Y ?_))))
  obtain ⟨a0,a1⟩:=a
  obtain ⟨b0,b1⟩:=b
  simp_all
 refine sk (tn (sq (sr (lf (rd 4 Qa a.Play) Y ZM Y Y Qa9 (lf (rd 4 Qa b.Play) Y ZM Y Y Qa9 (cO (cS (vc (tv (rd 4 Qa a.Play) Y) (vc (tv (rd 4 Qa b.Play) Y) vn)) (Zj Y) (Qbe (n+0) a.Play b.Play (by omega) (by omega)) Y Y) (fO (QZ (tv (tB (decide (a.Play=b.Play))) Y)) (nt ?_))))))))
 refine cn (a.Play=b.Play) Y (fun fhc1=> ?_) fun fhc1=> ?_
 ·refine sr ?_
  refine fO (OF.assign (VEv.bool false)) (nt (rt (tr (vb (b':=false) Y ?_))))
  obtain ⟨a0,a1⟩:=a
  obtain ⟨b0,b1⟩:=b
  simp_all
 refine sk (tn (sr (fO (OF.assign (VEv.bool true)) (nt (rt (vb (b':=true) Y ?_))))))
 obtain ⟨a0,a1⟩:=a
 obtain ⟨b0,b1⟩:=b
 simp_all
theorem Q6 (n:Nat) (a:List ByteArray) (b:List ByteArray) (hla:a.length≤mx) (hlb:b.length≤mx):Pure (Qo Tryd.prog (n+1)) 19 [(rd 1 Qd a),(rd 1 Qd b)] (tB (decide (a=b))):=by
 refine Pure.intro (rs:= [ResultVar.tmp 4]) Tryd.func19 Y Y Y (E0:= [(0,(rd 1 Qd a)),(1,(rd 1 Qd b))]) Y ?_
 obtain ⟨hlim,hmx,hmax⟩:=QM
 refine sr (fO (OF.assign (VEv.bool false)) (nt (sq (sr (mO (rd 1 Qd a) Y (lO (B.lenR (m:=a.length) (tv (rd 1 Qd a) Y) Y5 (List.length_map ..)) (mO (rd 1 Qd b) Y (lO (B.lenR (m:=b.length) (tv (rd 1 Qd b) Y) Y5 (List.length_map ..)) (fO (Qe4 (tv (tN a.length) Y) (tv (tN b.length) Y)) (nt ?_))))))))))
 refine cn (a.length=b.length) Y (fun fhc0=> ?_) fun fhc0=> ?_
 ·refine sr ?_
  refine fO (OF.assign (VEv.bool false)) (nt (rt (tr (vb (b':=false) Y ?_))))
  symm;rw [decide_eq_false_iff_not];rintro rfl;exact fhc0 Y
 refine sk (tn (sq (sr (fO (OF.assign (VEv.int .i64 0)) (nt (VRun.block ?_))))))
 refine VRun.loop (A:=Nat) (fun s_=> [(0,(rd 1 Qd a)),(1,(rd 1 Qd b)),(5,(tN s_))]) (fun s_=>Yc []) 0 (fun s_=>s_≤a.length∧∀j,j<s_→a[j]? =b[j]?) (fun s_=>a.length - s_) (0:Nat) ?_ (Wk.mk (fun k=>k) ?_ ?_ ?_) ?_
 ·first | trivial | (simp;done) | omega | (constructor<;>simp)
 ·exact (b2 (b2 (b2 bn)))
 ·exact bn
 ·exact nd Y
 rintro i (hI':i≤a.length∧∀j,j<i→a[j]? =b[j]?)
 show VRun _ _ _ [(0,(rd 1 Qd a)),(1,(rd 1 Qd b)),(5,(tN i))] (Yc []) 0 _
 refine sq (sr (mO (tN i) Y (mO (rd 1 Qd a) Y (lO (B.lenR (m:=a.length) (tv (rd 1 Qd a) Y) Y5 (List.length_map ..)) (fO (YA (tv (tN i) Y) (tv (tN a.length) Y)) (nt ?_))))))
 refine cd (i<a.length) Y (fun fhc1=> ?_) fun fhc1=> ?_
 ·refine sk ?_
  refine tn (sq (VRun.block (sq (VRun.draw (B:= [[],[],[1,0],[0,1,2],[],[],[5,4],[4,5,6],[6,5,4,7,2,1,0,3]]) (by kernel_rfl) (by kernel_rfl) (mD (rd 1 Qd a) Y Y (mD (tN i) Y Y ?_))))))
  obtain ⟨x1,hx1⟩:∃x,a[i]? =some x:=⟨_,List.getElem?_eq_getElem (by omega)⟩
  refine fD (OF.indexAddrR (row:=(Qd false x1)) (i:=i) (tv (rd 1 Qd a) Y) (tv (tN i) Y) Y (Qr _ hx1) Y5 Ji if9) Y Y (lD (OL.loadR1 (t:=(tS x1)) (tv (T.rp [(tS x1)]) Y) Y st9) Y Y (mD (rd 1 Qd b) Y Y (mD (tN i) Y Y ?_)))
  obtain ⟨x2,hx2⟩:∃x,b[i]? =some x:=⟨_,List.getElem?_eq_getElem (by omega)⟩
  refine fD (OF.indexAddrR (row:=(Qd false x2)) (i:=i) (tv (rd 1 Qd b) Y) (tv (tN i) Y) Y (Qr _ hx2) Y5 Ji if9) Y Y (lD (OL.loadR1 (t:=(tS x2)) (tv (T.rp [(tS x2)]) Y) Y st9) Y Y (fD (B.sneq (c:=(!(decide (x1=x2)))) (tv (tS x1) Y) (tv (tS x2) Y) Y) Y Y (VRunD.nil (tn ?_))))
  refine cn (x1=x2) Y (fun fhc2=> ?_) fun fhc2=> ?_
  ·refine sr ?_
   refine fO (OF.assign (VEv.bool false)) (nt (rt (vinB.r (tr (tr (vinB.r (tr (vb (b':=false) Y ?_))))))))
   symm;rw [decide_eq_false_iff_not];exact QbQ hx1 hx2 fhc2
  refine sk (vinB.n (tn (VRun.region (mO (tN i) Y (fO (Zk (tv (tN i) Y) (VEv.int .i64 1) (by omega)) (aO (tN (i+1)) Y (VRunO.nil (tn ?_))))))))
  refine ⟨(i+1:Nat),?_,?_,Wk.mk (fun k=>k) ?_ ?_ ?_⟩
  ·exact Qbf hI' hx1 hx2 fhc2
  ·first | omega | (simp only [];omega) | (show _<_;omega) | (simp;omega)
  ·exact (b2 (b2 (b2 bn)))
  ·exact bn
  ·exact nd Y
 refine VRun.exit (vthn.e (vthn.e (vinB.e (tn (sr (fO (OF.assign (VEv.bool true)) (nt (rt (vb (b':=true) Y ?_)))))))))
 symm;rw [decide_eq_true_eq];exact QbT hI' fhc0 fhc1
noncomputable section
theorem Ye {ok:Nat→Prop} {i n:Nat} (h:i≤n∧∀j,j<i→ok j) (hi:i<n) (hk:ok i):i+1≤n∧∀j,j<i+1→ok j:=by
 refine ⟨hi,fun j hj=> ?_⟩
 rcases Nat.lt_or_ge j i with h1 | h1
 ·exact h.2 j h1
 ·obtain rfl:j=i:=by omega
  exact hk
theorem Qbc {ok:Nat→Prop} {i n:Nat} (h:i≤n∧∀j,j<i→ok j) (hi:¬i<n):∀j,j<n→ok j:=fun j hj=>h.2 j (by omega)
theorem QdH {α:Type} {l:List α} {i:Nat} {x y:α} (hx:l[i]? =some x) (hy:l[i]? =some y):y=x:=by
 rw [hx] at hy
 exact (Option.some.inj hy).symm
def QE (s:ByteArray):Prop:=(1≤s.size∧s.size≤8)∧∀i,i<s.size→97≤Jx s i∧Jx s i≤122
instance (s:ByteArray):Decidable (QE s):=Classical.propDecidable _
def NoneTo {α:Type} (p:α→Prop) (l:List α) (i:Nat):Prop:=i≤l.length∧∀j y,j<i→l[j]? =some y→¬p y
theorem NoneTo.start {α:Type} (p:α→Prop) (l:List α):NoneTo p l 0:=⟨Nat.zero_le _,fun j y hj=>by omega⟩
theorem NoneTo.next {α:Type} {p:α→Prop} {l:List α} {i:Nat} {x:α} (h:NoneTo p l i) (hx:l[i]? =some x) (hn:¬p x):NoneTo p l (i+1):=by
 have:=(List.getElem?_eq_some_iff.1 hx).1
 refine ⟨by omega,fun j y hj hy=> ?_⟩
 rcases Nat.lt_or_ge j i with h1 | h1
 ·exact h.2 j y h1 hy
 ·obtain rfl:j=i:=by omega
  rw [hx] at hy
  exact Option.some.inj hy▸hn
theorem NoneTo.all {α:Type} {p:α→Prop} {l:List α} {i:Nat} (h:NoneTo p l i) (hi:¬i<l.length):∀j y,j<l.length→l[j]? =some y→¬p y:=fun j y hj hy=>h.2 j y (by omega) hy
theorem NoneTo.mem {α:Type} {p:α→Prop} {l:List α} {i:Nat} (h:NoneTo p l i) (hi:¬i<l.length):∀y∈l,¬p y:=fun y hy=>by
 obtain ⟨j,hj⟩:=List.getElem?_of_mem hy
 exact h.all hi j y (List.getElem?_eq_some_iff.1 hj).1 hj
end
theorem QP (n:Nat) (a:Int) (b:Int) (c:Int):Pure (Qo Tryd.prog (n+1)) 59 [(tI a),(tI b),(tI c)] (tB (decide (b≤a∧a≤c))):=by
 refine Pure.intro (rs:= [ResultVar.tmp 6]) Tryd.func59 Y Y Y (E0:= [(0,(tI a)),(1,(tI b)),(2,(tI c))]) Y ?_
 obtain ⟨hlim,hmx,hmax⟩:=QM
 refine sr (fO (OF.assign (VEv.bool false)) (nt (sr (mO (tI a) Y (mO (tI b) Y (fO (xge (tv (tI a) Y) (tv (tI b) Y)) (mO (tB (decide (b≤a))) Y ?_)))))))
 refine gw (b≤a) (fun fhg10_1=> ?_) fun fhg10_1=> ?_
 ·refine gF (dy fhg10_1) Y Y (OF.move (tv (tI a) Y)) ?_
  refine gF (dy fhg10_1) Y Y (OF.move (tv (tI c) Y)) (gF (dy fhg10_1) Y Y (xle (tv (tI a) Y) (tv (tI c) Y)) (fO (OF.pickT (VEv.tmpB Y (dy fhg10_1)) (tv (tB (decide (a≤c))) Y)) (aO (tB (decide (a≤c))) Y (nt (rt (vb (b':=(decide (a≤c))) Y ?_))))))
  exact Yv (by omega)
 refine QN 3 3 true 10 (dz fhg10_1) Y Y Y (fO (OF.pickF (VEv.tmpB Y (dz fhg10_1)) (VEv.bool false)) (aO (tB false) Y (nt (rt (vb (b':=false) Y ?_)))))
 (symm;rw [decide_eq_false_iff_not];omega)
theorem Zu (n:Nat) (a:Int) (b:Int) (c:Int):Pure (Qo Tryd.prog (n+1)) 61 [(tI a),(tI b),(tI c)] (tB (decide (b≤a∧a≤c))):=by
 refine Pure.intro (rs:= [ResultVar.tmp 6]) Tryd.func61 Y Y Y (E0:= [(0,(tI a)),(1,(tI b)),(2,(tI c))]) Y ?_
 obtain ⟨hlim,hmx,hmax⟩:=QM
 refine sr (fO (OF.assign (VEv.bool false)) (nt (sr (mO (tI b) Y (mO (tI a) Y (fO (xle (tv (tI b) Y) (tv (tI a) Y)) (mO (tB (decide (b≤a))) Y ?_)))))))
 refine gw (b≤a) (fun fhg10_1=> ?_) fun fhg10_1=> ?_
 ·refine gF (dy fhg10_1) Y Y (OF.move (tv (tI a) Y)) ?_
  refine gF (dy fhg10_1) Y Y (OF.move (tv (tI c) Y)) (gF (dy fhg10_1) Y Y (xle (tv (tI a) Y) (tv (tI c) Y)) (fO (OF.pickT (VEv.tmpB Y (dy fhg10_1)) (tv (tB (decide (a≤c))) Y)) (aO (tB (decide (a≤c))) Y (nt (rt (vb (b':=(decide (a≤c))) Y ?_))))))
  exact Yv (by omega)
 refine QN 3 3 true 10 (dz fhg10_1) Y Y Y (fO (OF.pickF (VEv.tmpB Y (dz fhg10_1)) (VEv.bool false)) (aO (tB false) Y (nt (rt (vb (b':=false) Y ?_)))))
 (symm;rw [decide_eq_false_iff_not];omega)
theorem Qax (n:Nat) (a:Int):Pure (Qo Tryd.prog (n+1)) 82 [(T.int .u8 a)] (tB (decide (97≤a∧a≤122))):=by
 refine Pure.intro (rs:= [ResultVar.tmp 2]) Tryd.func82 Y Y Y (E0:= [(0,(T.int .u8 a))]) Y ?_
 obtain ⟨hlim,hmx,hmax⟩:=QM
 refine sr (fO (OF.assign (VEv.bool false)) (nt (sr (mO (T.int .u8 a) Y (fO (xge (tv (T.int .u8 a) Y) (VEv.int .u8 97)) (mO (tB (decide (97≤a))) Y ?_))))))
 refine gw (97≤a) (fun fhg5_1=> ?_) fun fhg5_1=> ?_
 ·refine gF (dy fhg5_1) Y Y (OF.move (tv (T.int .u8 a) Y)) ?_
  refine gF (dy fhg5_1) Y Y (xle (tv (T.int .u8 a) Y) (VEv.int .u8 122)) (fO (OF.pickT (VEv.tmpB Y (dy fhg5_1)) (tv (tB (decide (a≤122))) Y)) (aO (tB (decide (a≤122))) Y (nt (rt (vb (b':=(decide (a≤122))) Y ?_)))))
  exact Yv (by omega)
 refine QN 2 2 true 5 (dz fhg5_1) Y Y Y (fO (OF.pickF (VEv.tmpB Y (dz fhg5_1)) (VEv.bool false)) (aO (tB false) Y (nt (rt (vb (b':=false) Y ?_)))))
 (symm;rw [decide_eq_false_iff_not];omega)
theorem Y6 (n:Nat) (a:Int) (b:Int):Pure (Qo Tryd.prog (n+1)) 64 [(tI a),(tI b)] (tB (decide (0≤a∧a<b))):=by
 refine Pure.intro (rs:= [ResultVar.tmp 4]) Tryd.func64 Y Y Y (E0:= [(0,(tI a)),(1,(tI b))]) Y ?_
 obtain ⟨hlim,hmx,hmax⟩:=QM
 refine sr (fO (OF.assign (VEv.bool false)) (nt (sr (mO (tI a) Y (fO (xge (tv (tI a) Y) (VEv.int .i64 0)) (mO (tB (decide (0≤a))) Y ?_))))))
 refine gw (0≤a) (fun fhg7_1=> ?_) fun fhg7_1=> ?_
 ·refine gF (dy fhg7_1) Y Y (OF.move (tv (tI a) Y)) ?_
  refine gF (dy fhg7_1) Y Y (OF.move (tv (tI b) Y)) (gF (dy fhg7_1) Y Y (xls (tv (tI a) Y) (tv (tI b) Y)) (fO (OF.pickT (VEv.tmpB Y (dy fhg7_1)) (tv (tB (decide (a<b))) Y)) (aO (tB (decide (a<b))) Y (nt (rt (vb (b':=(decide (a<b))) Y ?_))))))
  exact Yv (by omega)
 refine QN 3 2 true 7 (dz fhg7_1) Y Y Y (fO (OF.pickF (VEv.tmpB Y (dz fhg7_1)) (VEv.bool false)) (aO (tB false) Y (nt (rt (vb (b':=false) Y ?_)))))
 (symm;rw [decide_eq_false_iff_not];omega)
theorem Yp (n:Nat) (a:ByteArray) (ha:a.size≤maxLen):Pure (Qo Tryd.prog (n+2)) 85 [(tS a)] (tB (decide (QE a))):=by
 refine Pure.intro (rs:= [ResultVar.tmp 2]) Tryd.func85 Y Y Y (E0:= [(0,(tS a))]) Y ?_
 obtain ⟨hlim,hmx,hmax⟩:=QM
 refine sr (fO (OF.assign (VEv.bool false)) (nt (sq (sr (mO (tS a) Y (lO (B.lenS (tv (tS a) Y) U9) (cO (cS (vc (tv (tN a.size) Y) (vc (VEv.int .i64 1) (vc (VEv.int .i64 8) vn))) (Zj Y) (QP (n+0) ((a.size:Nat):Int) 1 8) Y Y) (fO (QZ (tv (tB (decide (1≤((a.size:Nat):Int)∧((a.size:Nat):Int)≤8))) Y)) (nt ?_)))))))))
 refine cn (1≤((a.size:Nat):Int)∧((a.size:Nat):Int)≤8) Y (fun fhc0=> ?_) fun fhc0=> ?_
 ·refine sr ?_
  refine fO (OF.assign (VEv.bool false)) (nt (rt (tr (vb (b':=false) Y ?_))))
  symm;rw [decide_eq_false_iff_not];rintro ⟨h1,_⟩;omega
 refine sk (tn (sq (sr (fO (OF.assign (VEv.int .i64 0)) (nt (VRun.block ?_))))))
 refine VRun.loop (A:=Nat) (fun s_=> [(0,(tS a)),(3,(tN s_))]) (fun s_=>Yc []) 0 (fun s_=>s_≤a.size∧∀j,j<s_→97≤Jx a j∧Jx a j≤122) (fun s_=>a.size - s_) (0:Nat) ?_ (Wk.mk (fun k=>k) ?_ ?_ ?_) ?_
 ·exact ⟨Nat.zero_le _,fun j hj=>by omega⟩
 ·exact (b2 (b2 bn))
 ·exact bn
 ·exact nd Y
 rintro i (hI':i≤a.size∧∀j,j<i→97≤Jx a j∧Jx a j≤122)
 show VRun _ _ _ [(0,(tS a)),(3,(tN i))] (Yc []) 0 _
 refine sq (sr (mO (tN i) Y (mO (tS a) Y (lO (B.lenS (tv (tS a) Y) U9) (fO (YA (tv (tN i) Y) (tv (tN a.size) Y)) (nt ?_))))))
 refine cd (i<a.size) Y (fun fhc1=> ?_) fun fhc1=> ?_
 ·refine sk ?_
  refine tn (sq (VRun.block (sr (mO (tS a) Y (mO (tN i) Y ?_)))))
  have hb1:i<a.size:=(by omega)
  refine fO (xix (tv (tS a) Y) (tv (tN i) Y) hb1 U9) (fO (xls (tv (T.int .u8 (Jx a i)) Y) (VEv.int .u8 97)) (mO (tB (decide (Jx a i<97))) Y ?_))
  refine gw (Jx a i<97) (fun fhg18_2=> ?_) fun fhg18_2=> ?_
  ·refine QN 4 4 false 18 (dy fhg18_2) Y Y Y ?_
   refine fO (OF.pickT (VEv.tmpB Y (dy fhg18_2)) (VEv.bool true)) (nt (ct Y (sr (fO (OF.assign (VEv.bool false)) (nt (rt (vinB.r (tr (tr (vinB.r (tr ?_)))))))))))
   refine vb (b':=false) Y ?_
   symm;rw [decide_eq_false_iff_not];rintro ⟨_,h2⟩;have:=h2 i fhc1;omega
  refine gF (dz fhg18_2) Y Y (OF.move (tv (tS a) Y)) (gF (dz fhg18_2) Y Y (OF.move (tv (tN i) Y)) ?_)
  have hb3:i<a.size:=(by omega)
  refine gF (dz fhg18_2) Y Y (xix (tv (tS a) Y) (tv (tN i) Y) hb3 U9) (gF (dz fhg18_2) Y Y (xgt (tv (T.int .u8 (Jx a i)) Y) (VEv.int .u8 122)) (fO (OF.pickF (VEv.tmpB Y (dz fhg18_2)) (tv (tB (decide (122<Jx a i))) Y)) (nt ?_)))
  refine cd (122<Jx a i) Y (fun fhc2=> ?_) fun fhc2=> ?_
  ·refine sr ?_
   refine fO (OF.assign (VEv.bool false)) (nt (rt (vinB.r (tr (tr (vinB.r (tr (vb (b':=false) Y ?_))))))))
   symm;rw [decide_eq_false_iff_not];rintro ⟨_,h2⟩;have:=h2 i fhc1;omega
  refine sk (vinB.n (tn (VRun.region (mO (tN i) Y (fO (Zk (tv (tN i) Y) (VEv.int .i64 1) (by omega)) (aO (tN (i+1)) Y (VRunO.nil (tn ?_))))))))
  refine ⟨(i+1:Nat),?_,?_,Wk.mk (fun k=>k) ?_ ?_ ?_⟩
  ·exact Ye (ok:=fun j=>97≤Jx a j∧Jx a j≤122) hI' fhc1 (by omega)
  ·omega
  ·exact (b2 (b2 bn))
  ·exact bn
  ·exact nd Y
 refine VRun.exit (vthn.e (vthn.e (vinB.e (tn (sr (fO (OF.assign (VEv.bool true)) (nt (rt (vb (b':=true) Y ?_)))))))))
 symm;rw [decide_eq_true_eq];exact ⟨by omega,Qbc hI' fhc1⟩
theorem Yo (n:Nat) (a:ByteArray) (ha:a.size≤maxLen):Pure (Qo Tryd.prog (n+2)) 91 [(tS a)] (tB (decide (QE a))):=by
 refine Pure.intro (rs:= [ResultVar.tmp 2]) Tryd.func91 Y Y Y (E0:= [(0,(tS a))]) Y ?_
 obtain ⟨hlim,hmx,hmax⟩:=QM
 refine sr (fO (OF.assign (VEv.bool false)) (nt (sq (sr (mO (tS a) Y (lO (B.lenS (tv (tS a) Y) U9) (cO (cS (vc (tv (tN a.size) Y) (vc (VEv.int .i64 1) (vc (VEv.int .i64 8) vn))) (Zj Y) (Zu (n+0) ((a.size:Nat):Int) 1 8) Y Y) (fO (QZ (tv (tB (decide (1≤((a.size:Nat):Int)∧((a.size:Nat):Int)≤8))) Y)) (nt ?_)))))))))
 refine cn (1≤((a.size:Nat):Int)∧((a.size:Nat):Int)≤8) Y (fun fhc0=> ?_) fun fhc0=> ?_
 ·refine sr ?_
  refine fO (OF.assign (VEv.bool false)) (nt (rt (tr (vb (b':=false) Y ?_))))
  symm;rw [decide_eq_false_iff_not];rintro ⟨h1,_⟩;omega
 refine sk (tn (sq (sr (mO (tS a) Y (lO (B.lenS (tv (tS a) Y) U9) (fO (OF.move (VEv.int .i64 0)) (nt (VRun.block ?_))))))))
 refine VRun.loop (A:=Nat) (fun s_=> [(0,(tS a)),(9,(tN a.size)),(10,(tN s_))]) (fun s_=>Yc []) 0 (fun s_=>s_≤a.size∧∀j,j<s_→97≤Jx a j∧Jx a j≤122) (fun s_=>a.size - s_) (0:Nat) ?_ (Wk.mk (fun k=>k) ?_ ?_ ?_) ?_
 ·exact ⟨Nat.zero_le _,fun j hj=>by omega⟩
 ·exact (b2 (b2 (b2 bn)))
 ·exact bn
 ·exact nd Y
 rintro i (hI':i≤a.size∧∀j,j<i→97≤Jx a j∧Jx a j≤122)
 show VRun _ _ _ [(0,(tS a)),(9,(tN a.size)),(10,(tN i))] (Yc []) 0 _
 refine sr (fO (YA (tv (tN i) Y) (tv (tN a.size) Y)) (nt (sq ?_)))
 refine cd (i<a.size) Y (fun fhc1=> ?_) fun fhc1=> ?_
 ·refine sk ?_
  refine tn (sq (VRun.block (sr (mO (tN i) Y (aO (tN i) Y (nt (sr (mO (tS a) Y (mO (tN i) Y ?_)))))))))
  have hb1:i<a.size:=(by omega)
  refine fO (xix (tv (tS a) Y) (tv (tN i) Y) hb1 U9) (cO (cS (vc (tv (T.int .u8 (Jx a i)) Y) vn) (Zj Y) (Qax (n+0) (Jx a i)) Y Y) (fO (QZ (tv (tB (decide (97≤(Jx a i)∧(Jx a i)≤122))) Y)) (nt ?_)))
  refine cn (97≤(Jx a i)∧(Jx a i)≤122) Y (fun fhc2=> ?_) fun fhc2=> ?_
  ·refine sr ?_
   refine fO (OF.assign (VEv.bool false)) (nt (rt (vinB.r (tr (tr (vinB.r (tr (vb (b':=false) Y ?_))))))))
   symm;rw [decide_eq_false_iff_not];rintro ⟨_,h2⟩;have:=h2 i fhc1;omega
  refine sk (vinB.n (tn (VRun.region (fO (Zk (tv (tN i) Y) (VEv.int .i64 1) (by omega)) (mO (tN (i+1)) Y (VRunO.nil (tn ?_)))))))
  refine ⟨(i+1:Nat),?_,?_,Wk.mk (fun k=>k) ?_ ?_ ?_⟩
  ·exact Ye (ok:=fun j=>97≤Jx a j∧Jx a j≤122) hI' fhc1 (by omega)
  ·omega
  ·exact (b2 (b2 (b2 bn)))
  ·exact bn
  ·exact nd Y
 refine VRun.exit (vthn.e (vthn.e (vinB.e (tn (sr (fO (OF.assign (VEv.bool true)) (nt (rt (vb (b':=true) Y ?_)))))))))
 symm;rw [decide_eq_true_eq];exact ⟨by omega,Qbc hI' fhc1⟩
noncomputable section
def YV (k:Int):Prop:=k=4∨k=5
def ZK (l:List D.Step) (j:Nat):Prop:=∃x,l[j]? =some x∧(1≤x.Kind∧x.Kind≤9)∧(x.Kind=1→QE x.Word∧x.A=0∧x.B=0) ∧
 (¬x.Kind=1→x.Word=(⟨#[]⟩:ByteArray)∧(0≤x.A∧x.A<(j:Int))∧(YV x.Kind→0≤x.B∧x.B<(j:Int))∧(¬YV x.Kind→x.B=0)∧(¬YV x.Kind→¬x.Kind=2→∃y,l[x.A.toNat]? =some y∧y.Kind=1))
instance (l:List D.Step) (j:Nat):Decidable (ZK l j):=Classical.propDecidable _
def QJ (l:List D.Step):Prop:=(1≤l.length∧l.length≤9)∧∀j,j<l.length→ZK l j
instance (l:List D.Step):Decidable (QJ l):=Classical.propDecidable _
def Qak (l:List D.Step) (j:Nat) (x:D.Step):Prop:=(1≤x.Kind∧x.Kind≤9)∧(x.Kind=1→QE x.Word∧x.A=0∧x.B=0) ∧
 (¬x.Kind=1→x.Word=(⟨#[]⟩:ByteArray)∧(0≤x.A∧x.A<(j:Int))∧(YV x.Kind→0≤x.B∧x.B<(j:Int))∧(¬YV x.Kind→x.B=0)∧(¬YV x.Kind→¬x.Kind=2→∃y,l[x.A.toNat]? =some y∧y.Kind=1))
theorem Ql {l:List D.Step} {j:Nat} {x:D.Step} (hx:l[j]? =some x):ZK l j↔Qak l j x:=by
 constructor
 ·rintro ⟨y,hy,h⟩
  obtain rfl:=QdH hx hy
  exact h
 ·intro h
  exact ⟨x,hx,h⟩
theorem QgF {l:List D.Step} {k:Nat} {y:D.Step} (hy:l[k]? =some y):(∃z,l[k]? =some z∧z.Kind=1)↔y.Kind=1:=by
 constructor
 ·rintro ⟨z,hz,h⟩
  obtain rfl:=QdH hy hz
  exact h
 ·intro h
  exact ⟨y,hy,h⟩
theorem Qgl {l:List D.Step} {j:Nat} {x y:D.Step} (hx:l[j]? =some x) (hy:l[x.A.toNat]? =some y) (h1:1≤x.Kind∧x.Kind≤9) (h2:¬x.Kind=1) (h3:x.Word=(⟨#[]⟩:ByteArray)) (h4:0≤x.A∧x.A<(j:Int)) (h5:x.B=0) (h6:¬YV x.Kind) (h7:¬x.Kind=2):decide (y.Kind=1)=decide (ZK l j):=by
 refine Yv ?_
 rw [Ql hx]
 simp only [Qak,QgF hy]
 exact ⟨fun h=>⟨h1,fun hk=>absurd hk h2,fun _=>⟨h3,h4,fun h=>absurd h h6,fun _=>h5,fun _ _=>h⟩⟩,fun h=>(h.2.2 h2).2.2.2.2 h6 h7⟩
theorem Qgg {l:List D.Step} {j:Nat} {x:D.Step} (hx:l[j]? =some x) (h1:1≤x.Kind∧x.Kind≤9) (h2:x.Kind=1) (h3:QE x.Word) (h4:x.A=0):decide (x.B=0)=decide (ZK l j):=by
 refine Yv ?_
 rw [Ql hx]
 simp only [Qak]
 exact ⟨fun h=>⟨h1,fun _=>⟨h3,h4,h⟩,fun hk=>absurd h2 hk⟩,fun h=>(h.2.1 h2).2.2⟩
theorem QG : ¬QE (⟨#[]⟩:ByteArray):=fun h=>absurd h.1.1 (by decide)
end
theorem Qaa (n:Nat) (a:Int):Pure (Qo Tryd.prog (n+1)) 132 [(tI a)] (tB (decide (a=3∨6≤a))):=by
 refine Pure.intro (rs:= [ResultVar.tmp 2]) Tryd.func132 Y Y Y (E0:= [(0,(tI a))]) Y ?_
 obtain ⟨hlim,hmx,hmax⟩:=QM
 refine sr (fO (OF.assign (VEv.bool false)) (nt (sr (mO (tI a) Y (fO (Jb (tv (tI a) Y) (VEv.int .i64 3)) (mO (tB (decide (a=3))) Y ?_))))))
 refine gw (a=3) (fun fhg5_1=> ?_) fun fhg5_1=> ?_
 ·refine QN 2 2 false 5 (dy fhg5_1) Y Y Y ?_
  refine fO (OF.pickT (VEv.tmpB Y (dy fhg5_1)) (VEv.bool true)) (aO (tB true) Y (nt (rt (vb (b':=true) Y ?_))))
  (symm;rw [decide_eq_true_eq];omega)
 refine gF (dz fhg5_1) Y Y (OF.move (tv (tI a) Y)) (gF (dz fhg5_1) Y Y (xge (tv (tI a) Y) (VEv.int .i64 6)) (fO (OF.pickF (VEv.tmpB Y (dz fhg5_1)) (tv (tB (decide (6≤a))) Y)) (aO (tB (decide (6≤a))) Y (nt (rt (vb (b':=(decide (6≤a))) Y ?_))))))
 exact Yv (by omega)
theorem QV (n:Nat) (a:Int):Pure (Qo Tryd.prog (n+1)) 116 [(tI a)] (tB (decide (a=4∨a=5))):=by
 refine Pure.intro (rs:= [ResultVar.tmp 2]) Tryd.func116 Y Y Y (E0:= [(0,(tI a))]) Y ?_
 obtain ⟨hlim,hmx,hmax⟩:=QM
 refine sr (fO (OF.assign (VEv.bool false)) (nt (sr (mO (tI a) Y (fO (Jb (tv (tI a) Y) (VEv.int .i64 4)) (mO (tB (decide (a=4))) Y ?_))))))
 refine gw (a=4) (fun fhg5_1=> ?_) fun fhg5_1=> ?_
 ·refine QN 2 2 false 5 (dy fhg5_1) Y Y Y ?_
  refine fO (OF.pickT (VEv.tmpB Y (dy fhg5_1)) (VEv.bool true)) (aO (tB true) Y (nt (rt (vb (b':=true) Y ?_))))
  (symm;rw [decide_eq_true_eq];omega)
 refine gF (dz fhg5_1) Y Y (OF.move (tv (tI a) Y)) (gF (dz fhg5_1) Y Y (Jb (tv (tI a) Y) (VEv.int .i64 5)) (fO (OF.pickF (VEv.tmpB Y (dz fhg5_1)) (tv (tB (decide (a=5))) Y)) (aO (tB (decide (a=5))) Y (nt (rt (vb (b':=(decide (a=5))) Y ?_))))))
 exact Yv (by omega)
theorem Qb5 (n:Nat) (a:List D.Step) (i:Nat) (hz:zL QD a≤mx) (hi:i<a.length):Pure (Qo Tryd.prog (n+3)) 131 [(rd 4 Qa a),(tN i)] (tB (decide (ZK a i))):=by
 refine Pure.intro (rs:= [ResultVar.tmp 4]) Tryd.func131 Y Y Y (E0:= [(0,(rd 4 Qa a)),(1,(tN i))]) Y ?_
 obtain ⟨hlim,hmx,hmax⟩:=QM
 have ha:=Zr (z:=QD) a
 have hw:∀x∈a,x.Word.size≤maxLen:=fun x hx=>by have h1:=QeE (z:=QD) hx;simp only [QD] at h1;omega
 refine sr (fO (OF.assign (VEv.bool false)) (nt (sr (mO (rd 4 Qa a) Y (mO (tN i) Y ?_)))))
 obtain ⟨x1,hx1⟩:∃x,a[i]? =some x:=⟨_,List.getElem?_eq_getElem (by omega)⟩
 refine fO (OF.indexAddrR (row:=(Qa false x1)) (i:=i) (tv (rd 4 Qa a) Y) (tv (tN i) Y) Y (Qr _ hx1) YR Zf ZR) (lO (OL.loadRn (us:=(Qa false x1)) (tv (T.rp (Qa false x1)) Y) Qdb Zf (lb Y) Y) (kO (B.alloc (t:=(T.agg [(tN 0),(tS ByteArray.empty),(tN 0),(tN 0)])) (ts:= [(tN 0),(tS ByteArray.empty),(tN 0),(tN 0)]) Qd0 Qd1 nofun (fun _=> .agg _ _ Y (Qaf (RL.cons (.int _ _) (RL.cons (.str _) (RL.cons (.int _ _) (RL.cons (.int _ _) (RL.nil _))))))) Y) (cO (B.storeW (us:=(Qa false x1)) (tv (T.op 0 0) Y) (tv (T.agg (Qa false x1)) Y) nofun Y Y Y ZR Zf (bc Y (bc Y (bc Y (bc Y bn))))) (nt (sq (sq (VRun.draw (B:= [[],[0],[0,1],[1,0,2],[2,0,1,3],[3,1,0,2,4],[4,2,0,1,3,5],[5,3,1,0,2,4,6],[3,1,0,2,4],[4,2,0,1,3,8],[8,3,1,0,2,4,9],[9,8,10,6,4,2,0,1,3,5,7],[7,5,6,10,8,9,11,3,1,0,2,4],[4,2,0,1,3,11,9,8,10,6,5,7,12],[12,7,5,6,10,8,9,11,3,1,0,2,4,13],[13,4,2,0,1,3,11,9,8,10,6,5,7,12,14],[14,12,7,5,6,10,8,9,11,3,1,0,2,4,13,15],[15,13,4,2,0,1,3,11,9,8,10,6,5,7,12,14,16],[16,14,12,7,5,6,10,8,9,11,3,1,0,2,4,13,15,17],[17,15,13,4,2,0,1,3,11,9,8,10,6,5,7,12,14,16,18],[18,16,14,12,7,5,6,10,8,9,11,3,1,0,2,4,13,15,17,19],[19,18,20,16,14,12,7,5,6,10,8,9,11,3,1,0,2,4,13,15,17],[17,15,14,16,20,18,19,21,12,7,5,6,10,8,9,11,3,1,0,2,4,13]]) (by kernel_rfl) (by kernel_rfl) (fD (OF.fieldAddrO (tv (T.op 0 0) Y) Qy) Y Y (lD (OL.loadO1 (t:=(tI x1.Kind)) (tv (T.op 0 0) Y) Y Y Q4) Y Y (VRunD.quiet (bi:= [0,1]) Y VWant.always Y Y Y bn (cS (vc (tv (tI x1.Kind) Y) (vc (VEv.int .i64 1) (vc (VEv.int .i64 9) vn))) (Zj Y) (QP (n+1) x1.Kind 1 9) Y Y) (fD (QZ (tv (tB (decide (1≤x1.Kind∧x1.Kind≤9))) Y)) Y Y ?_)))))))))))
 refine mD (tB (!(decide (1≤x1.Kind∧x1.Kind≤9)))) Y Y ?_
 refine gn (1≤x1.Kind∧x1.Kind≤9) (fun fhg15_1=> ?_) fun fhg15_1=> ?_
 ·refine oD Y Y (ny fhg15_1) Y ?_
  refine oD Y Y (ny fhg15_1) Y (oD Y Y (ny fhg15_1) Y (oD Y Y (ny fhg15_1) Y (oD Y Y (ny fhg15_1) Y (oD Y Y (ny fhg15_1) Y (oD Y Y (ny fhg15_1) Y (fD (OF.pickT (VEv.tmpB Y (ny fhg15_1)) (VEv.bool true)) Y Y (mD (tB true) Y Y (VRunD.off Y (VWant.not (b:=true) Y Y Y) (VRunD.off Y (VWant.not (b:=true) Y Y Y) (VRunD.off Y (VWant.not (b:=true) Y Y Y) (VRunD.off Y (VWant.not (b:=true) Y Y Y) ?_)))))))))))
  refine uD Y Y Y (uD Y Y Y (uD Y Y Y (VRunD.off Y (VWant.not (b:=true) Y Y Y) (fD (OF.pickT (tv (tB true) Y) (VEv.bool true)) Y Y (VRunD.nil (tn (ct Y (sr (fO (OF.assign (VEv.bool false)) (nt (rt ?_)))))))))))
  refine tr (vb (b':=false) Y ?_)
  (symm;rw [decide_eq_false_iff_not,Ql hx1];rintro ⟨h1,h2,h3⟩;by_cases hk:x1.Kind=1<;>simp only [hk,YV] at* <;>omega)
 refine VRunD.free Y (VWant.on Y Y (nz fhg15_1)) Y (OF.fieldAddrO (tv (T.op 0 0) Y) Qy) (VRunD.look Y (VWant.on Y Y (nz fhg15_1)) Y (OL.loadO1 (t:=(tI x1.Kind)) (tv (T.op 0 0) Y) Y Y Q4) (VRunD.free Y (VWant.on Y Y (nz fhg15_1)) Y (Jb (tv (tI x1.Kind) Y) (VEv.int .i64 1)) (VRunD.free Y (VWant.on Y Y (nz fhg15_1)) Y (OF.fieldAddrO (tv (T.op 0 0) Y) Y1) (VRunD.look Y (VWant.on Y Y (nz fhg15_1)) Y (OL.loadO1 (t:=(tS x1.Word)) (tv (T.op 0 1) Y) Y Y st9) (VRunD.quiet (bi:= [8,3,1,0,2,4,9]) Y (VWant.on Y Y (nz fhg15_1)) Y Y Y bn (cS (vc (tv (tS x1.Word) Y) vn) (Zj Y) (Yp (n+0) x1.Word (by exact hw _ (List.mem_of_getElem? hx1))) Y Y) (VRunD.free Y (VWant.on Y Y (nz fhg15_1)) Y (B.bneq U4 (c:=(!((decide (x1.Kind=1)) == (decide (QE x1.Word))))) (tv (tB (decide (x1.Kind=1))) Y) (tv (tB (decide (QE x1.Word))) Y) Y) (fD (OF.pickF (VEv.tmpB Y (nz fhg15_1)) (tv (tB (!((decide (x1.Kind=1)) == (decide (QE x1.Word))))) Y)) Y Y (mD (tB (!((decide (x1.Kind=1)) == (decide (QE x1.Word))))) Y Y ?_))))))))
 refine QcP (!((decide (x1.Kind=1)) == (decide (QE x1.Word)))) (fun hg24_2=> ?_) (fun hg24_2=> ?_)
 ·have fhg24_2:(!((decide (x1.Kind=1)) == (decide (QE x1.Word))))=true:=hg24_2
  refine oD Y Y hg24_2 Y (oD Y Y hg24_2 Y (oD Y Y hg24_2 Y (oD Y Y hg24_2 Y (uD Y Y Y (uD Y Y Y (uD Y Y Y (oD Y Y hg24_2 Y (fD (OF.pickT (VEv.tmpB Y hg24_2) (VEv.bool true)) Y Y (VRunD.nil (tn (ct Y ?_)))))))))))
  refine sr (fO (OF.assign (VEv.bool false)) (nt (rt (tr (vb (b':=false) Y ?_)))))
  (symm;rw [decide_eq_false_iff_not,Ql hx1];rintro ⟨h1,h2,h3⟩;by_cases hk:x1.Kind=1<;>simp only [hk,YV] at* <;>(simp_all [QG];done))
 have fhg24_2:(!((decide (x1.Kind=1)) == (decide (QE x1.Word))))=false:=hg24_2
 refine VRunD.free Y (VWant.on Y Y hg24_2) Y (OF.fieldAddrO (tv (T.op 0 0) Y) Qy) (VRunD.look Y (VWant.on Y Y hg24_2) Y (OL.loadO1 (t:=(tI x1.Kind)) (tv (T.op 0 0) Y) Y Y Q4) (VRunD.free Y (VWant.on Y Y hg24_2) Y (xne (tv (tI x1.Kind) Y) (VEv.int .i64 1)) (VRunD.free Y (VWant.on Y Y hg24_2) Y (OF.move (tv (tB (!(decide (x1.Kind=1)))) Y)) ?_)))
 refine gn (x1.Kind=1) (fun fhg28_3=> ?_) fun fhg28_3=> ?_
 ·refine VRunD.free Y (VWant.on Y Y (ny fhg28_3)) Y (OF.fieldAddrO (tv (T.op 0 0) Y) Y1) ?_
  refine VRunD.look Y (VWant.on Y Y (ny fhg28_3)) Y (OL.loadO1 (t:=(tS x1.Word)) (tv (T.op 0 1) Y) Y Y st9) (VRunD.free Y (VWant.on Y Y (ny fhg28_3)) Y (B.sneq (c:=(!(decide (x1.Word=(⟨#[]⟩:ByteArray))))) (tv (tS x1.Word) Y) (VEv.str (⟨#[]⟩:ByteArray)) Y) (VRunD.free Y (VWant.on Y Y hg24_2) Y (OF.pickT (VEv.tmpB Y (ny fhg28_3)) (tv (tB (!(decide (x1.Word=(⟨#[]⟩:ByteArray))))) Y)) (fD (OF.pickF (VEv.tmpB Y hg24_2) (tv (tB (!(decide (x1.Word=(⟨#[]⟩:ByteArray))))) Y)) Y Y (VRunD.nil (tn ?_)))))
  refine cn (x1.Word=(⟨#[]⟩:ByteArray)) Y (fun fhc0=> ?_) fun fhc0=> ?_
  ·refine sr ?_
   refine fO (OF.assign (VEv.bool false)) (nt (rt (tr (vb (b':=false) Y ?_))))
   (symm;rw [decide_eq_false_iff_not,Ql hx1];rintro ⟨h1,h2,h3⟩;by_cases hk:x1.Kind=1<;>simp only [hk,YV] at* <;>(simp_all [QG];done))
  refine sk (tn (sr (lf (tI x1.Kind) Y Qy Y Y Q4 (fO (Jb (tv (tI x1.Kind) Y) (VEv.int .i64 4)) (mO (tB (decide (x1.Kind=4))) Y ?_)))))
  refine gw (x1.Kind=4) (fun fhg37_4=> ?_) fun fhg37_4=> ?_
  ·refine QN 3 3 false 37 (dy fhg37_4) Y Y Y ?_
   refine fO (OF.pickT (VEv.tmpB Y (dy fhg37_4)) (VEv.bool true)) (aO (tB true) Y (nt (sq (sr (lf (tI x1.Kind) Y Qy Y Y Q4 (fO (Jb (tv (tI x1.Kind) Y) (VEv.int .i64 1)) (nt (cg (dz fhg28_3) Y (sk (tn (sq ?_)))))))))))
   refine sr (lf (tI x1.A) Y Zt Y Y Q4 (mO (tN i) Y (fO (B.sub (n:=(((i:Nat):Int) - 1)) (tv (tN i) Y) (VEv.int .i64 1) (by (rw [Qq (by omega)];done))) (cO (cS (vc (tv (tI x1.A) Y) (vc (VEv.int .i64 0) (vc (tv (tI (((i:Nat):Int) - 1)) Y) vn))) (Zj Y) (QP (n+1) x1.A 0 (((i:Nat):Int) - 1)) Y Y) (fO (QZ (tv (tB (decide (0≤x1.A∧x1.A≤(((i:Nat):Int) - 1)))) Y)) (mO (tB (!(decide (0≤x1.A∧x1.A≤(((i:Nat):Int) - 1))))) Y ?_))))))
   refine gn (0≤x1.A∧x1.A≤(((i:Nat):Int) - 1)) (fun fhg59_5=> ?_) fun fhg59_5=> ?_
   ·refine QN 2 6 false 59 (ny fhg59_5) Y Y Y ?_
    refine QbC 6 8 true 61 Y Y Y (oO Y Y (ny fhg59_5) (fO (OF.pickT (VEv.tmpB Y (ny fhg59_5)) (VEv.bool true)) (mO (tB true) Y (QN 3 17 false 70 (b:=true) Y Y Y Y (QbC 3 20 true 73 Y Y Y (VRunO.off (VWant.not (b:=true) Y Y Y) (fO (OF.pickT (tv (tB true) Y) (VEv.bool true)) (nt (ct Y (sr (fO (OF.assign (VEv.bool false)) ?_)))))))))))
    refine nt (rt (tr (vb (b':=false) Y ?_)))
    (symm;rw [decide_eq_false_iff_not,Ql hx1];rintro ⟨h1,h2,h3⟩;by_cases hk:x1.Kind=1<;>simp only [hk,YV] at* <;>first | omega | (simp_all [QG];omega))
   refine gF (nz fhg59_5) Y Y (OF.move (tv (tB true) Y)) (gF (nz fhg59_5) Y Y (OF.move (tv (tB true) Y)) (VRunO.free (VWant.on (b:=true) Y Y Y) (OF.fieldAddrO (tv (T.op 0 0) Y) Ze) (VRunO.look (VWant.on (b:=true) Y Y Y) (OL.loadO1 (t:=(tI x1.B)) (tv (T.op 0 3) Y) Y Y Q4) (VRunO.free (VWant.on (b:=true) Y Y Y) (OF.move (tv (tN i) Y)) (VRunO.free (VWant.on (b:=true) Y Y Y) (B.sub (n:=(((i:Nat):Int) - 1)) (tv (tN i) Y) (VEv.int .i64 1) (by (rw [Qq (by omega)];done))) (VRunO.chain (VWant.on (b:=true) Y Y Y) (cS (vc (tv (tI x1.B) Y) (vc (VEv.int .i64 0) (vc (tv (tI (((i:Nat):Int) - 1)) Y) vn))) (Zj Y) (QP (n+1) x1.B 0 (((i:Nat):Int) - 1)) Y Y) (VRunO.free (VWant.on (b:=true) Y Y Y) (QZ (tv (tB (decide (0≤x1.B∧x1.B≤(((i:Nat):Int) - 1)))) Y)) (gF (nz fhg59_5) Y Y (OF.pickT (tv (tB true) Y) (tv (tB (!(decide (0≤x1.B∧x1.B≤(((i:Nat):Int) - 1))))) Y)) (fO (OF.pickF (VEv.tmpB Y (nz fhg59_5)) (tv (tB (!(decide (0≤x1.B∧x1.B≤(((i:Nat):Int) - 1))))) Y)) (mO (tB (!(decide (0≤x1.B∧x1.B≤(((i:Nat):Int) - 1))))) Y ?_))))))))))
   refine gn (0≤x1.B∧x1.B≤(((i:Nat):Int) - 1)) (fun fhg70_6=> ?_) fun fhg70_6=> ?_
   ·refine QN 3 17 false 70 (ny fhg70_6) Y Y Y ?_
    refine QbC 3 20 true 73 Y Y Y (oO Y Y (ny fhg70_6) (fO (OF.pickT (VEv.tmpB Y (ny fhg70_6)) (VEv.bool true)) (nt (ct Y (sr (fO (OF.assign (VEv.bool false)) (nt (rt (tr (vb (b':=false) Y ?_))))))))))
    (symm;rw [decide_eq_false_iff_not,Ql hx1];rintro ⟨h1,h2,h3⟩;by_cases hk:x1.Kind=1<;>simp only [hk,YV] at* <;>first | omega | (simp_all [QG];omega))
   refine gF (nz fhg70_6) Y Y (OF.move (tv (tB true) Y)) (gF (nz fhg70_6) Y Y (B.not (c:=false) (tv (tB true) Y) Y) (gF (nz fhg70_6) Y Y (OF.move (tv (tB false) Y)) (QN 3 20 true 73 (b:=false) Y Y Y Y (gF (nz fhg70_6) Y Y (OF.pickF (tv (tB false) Y) (VEv.bool false)) (fO (OF.pickF (VEv.tmpB Y (nz fhg70_6)) (tv (tB false) Y)) (nt (cf Y (sk (tn (sr (mO (tB true) Y ?_)))))))))))
   refine mO (tB true) Y (QN 3 1 false 80 (b:=true) Y Y Y Y (fO (OF.pickT (tv (tB true) Y) (VEv.bool true)) (mO (tB true) Y (QN 7 6 false 85 (b:=true) Y Y Y Y (fO (OF.pickT (tv (tB true) Y) (VEv.bool true)) (aO (tB true) Y (nt (rt (vb (b':=true) Y ?_)))))))))
   (symm;rw [decide_eq_true_eq,Ql hx1];refine ⟨by omega,fun hk=> ?_,fun hk=> ?_⟩<;>first | (exfalso;omega) | (simp_all [YV,QG];omega))
  refine glf (tI x1.Kind) (dz fhg37_4) Y Y Y Y Qy Y Y Q4 (gF (dz fhg37_4) Y Y (Jb (tv (tI x1.Kind) Y) (VEv.int .i64 5)) (fO (OF.pickF (VEv.tmpB Y (dz fhg37_4)) (tv (tB (decide (x1.Kind=5))) Y)) (aO (tB (decide (x1.Kind=5))) Y (nt (sq (sr (lf (tI x1.Kind) Y Qy Y Y Q4 (fO (Jb (tv (tI x1.Kind) Y) (VEv.int .i64 1)) (nt (cg (dz fhg28_3) Y (sk ?_)))))))))))
  refine tn (sq (sr (lf (tI x1.A) Y Zt Y Y Q4 (mO (tN i) Y (fO (B.sub (n:=(((i:Nat):Int) - 1)) (tv (tN i) Y) (VEv.int .i64 1) (by (rw [Qq (by omega)];done))) (cO (cS (vc (tv (tI x1.A) Y) (vc (VEv.int .i64 0) (vc (tv (tI (((i:Nat):Int) - 1)) Y) vn))) (Zj Y) (QP (n+1) x1.A 0 (((i:Nat):Int) - 1)) Y Y) (fO (QZ (tv (tB (decide (0≤x1.A∧x1.A≤(((i:Nat):Int) - 1)))) Y)) (mO (tB (!(decide (0≤x1.A∧x1.A≤(((i:Nat):Int) - 1))))) Y ?_))))))))
  refine gn (0≤x1.A∧x1.A≤(((i:Nat):Int) - 1)) (fun fhg59_7=> ?_) fun fhg59_7=> ?_
  ·refine QN 2 6 false 59 (ny fhg59_7) Y Y Y ?_
   refine QbC 6 8 true 61 Y Y Y (oO Y Y (ny fhg59_7) (fO (OF.pickT (VEv.tmpB Y (ny fhg59_7)) (VEv.bool true)) (mO (tB true) Y (QN 3 17 false 70 (b:=true) Y Y Y Y (QbC 3 20 true 73 Y Y Y (VRunO.off (VWant.not (b:=true) Y Y Y) (fO (OF.pickT (tv (tB true) Y) (VEv.bool true)) (nt (ct Y (sr (fO (OF.assign (VEv.bool false)) ?_)))))))))))
   refine nt (rt (tr (vb (b':=false) Y ?_)))
   (symm;rw [decide_eq_false_iff_not,Ql hx1];rintro ⟨h1,h2,h3⟩;by_cases hk:x1.Kind=1<;>simp only [hk,YV] at* <;>first | (simp_all [QG];done) | (simp_all [QG];omega))
  refine gF (nz fhg59_7) Y Y (OF.move (tv (tB (decide (x1.Kind=5))) Y)) (gF (nz fhg59_7) Y Y (OF.move (tv (tB (decide (x1.Kind=5))) Y)) ?_)
  refine gw (x1.Kind=5) (fun fhg61_8=> ?_) fun fhg61_8=> ?_
  ·refine glf (tI x1.B) (dy fhg61_8) Y Y Y Y Ze Y Y Q4 ?_
   refine gF (dy fhg61_8) Y Y (OF.move (tv (tN i) Y)) (gF (dy fhg61_8) Y Y (B.sub (n:=(((i:Nat):Int) - 1)) (tv (tN i) Y) (VEv.int .i64 1) (by (rw [Qq (by omega)];done))) (VRunO.chain (VWant.on Y Y (dy fhg61_8)) (cS (vc (tv (tI x1.B) Y) (vc (VEv.int .i64 0) (vc (tv (tI (((i:Nat):Int) - 1)) Y) vn))) (Zj Y) (QP (n+1) x1.B 0 (((i:Nat):Int) - 1)) Y Y) (gF (dy fhg61_8) Y Y (QZ (tv (tB (decide (0≤x1.B∧x1.B≤(((i:Nat):Int) - 1)))) Y)) (gF (nz fhg59_7) Y Y (OF.pickT (VEv.tmpB Y (dy fhg61_8)) (tv (tB (!(decide (0≤x1.B∧x1.B≤(((i:Nat):Int) - 1))))) Y)) (fO (OF.pickF (VEv.tmpB Y (nz fhg59_7)) (tv (tB (!(decide (0≤x1.B∧x1.B≤(((i:Nat):Int) - 1))))) Y)) (mO (tB (!(decide (0≤x1.B∧x1.B≤(((i:Nat):Int) - 1))))) Y ?_))))))
   refine gn (0≤x1.B∧x1.B≤(((i:Nat):Int) - 1)) (fun fhg70_9=> ?_) fun fhg70_9=> ?_
   ·refine QN 3 17 false 70 (ny fhg70_9) Y Y Y ?_
    refine QbC 3 20 true 73 Y Y Y (oO Y Y (ny fhg70_9) (fO (OF.pickT (VEv.tmpB Y (ny fhg70_9)) (VEv.bool true)) (nt (ct Y (sr (fO (OF.assign (VEv.bool false)) (nt (rt (tr (vb (b':=false) Y ?_))))))))))
    (symm;rw [decide_eq_false_iff_not,Ql hx1];rintro ⟨h1,h2,h3⟩;by_cases hk:x1.Kind=1<;>simp only [hk,YV] at* <;>first | omega | (simp_all [QG];omega))
   refine gF (nz fhg70_9) Y Y (OF.move (tv (tB (decide (x1.Kind=5))) Y)) (gF (nz fhg70_9) Y Y (QZ (tv (tB (decide (x1.Kind=5))) Y)) (gF (nz fhg70_9) Y Y (OF.move (tv (tB (!(decide (x1.Kind=5)))) Y)) (QN 3 20 true 73 (nkT (dy fhg61_8)) Y Y Y (gF (nz fhg70_9) Y Y (OF.pickF (VEv.tmpB Y (nkT (dy fhg61_8))) (VEv.bool false)) (fO (OF.pickF (VEv.tmpB Y (nz fhg70_9)) (tv (tB false) Y)) (nt (cf Y (sk (tn (sr (mO (tB (decide (x1.Kind=5))) Y ?_)))))))))))
   refine mO (tB (decide (x1.Kind=5))) Y (QN 3 1 false 80 (dy fhg61_8) Y Y Y (fO (OF.pickT (VEv.tmpB Y (dy fhg61_8)) (VEv.bool true)) (mO (tB true) Y (QN 7 6 false 85 (b:=true) Y Y Y Y (fO (OF.pickT (tv (tB true) Y) (VEv.bool true)) (aO (tB true) Y (nt (rt (vb (b':=true) Y ?_)))))))))
   (symm;rw [decide_eq_true_eq,Ql hx1];refine ⟨by omega,fun hk=> ?_,fun hk=> ?_⟩<;>first | (exfalso;omega) | (simp_all [YV,QG];omega))
  refine QN 6 8 true 61 (dz fhg61_8) Y Y Y (gF (nz fhg59_7) Y Y (OF.pickF (VEv.tmpB Y (dz fhg61_8)) (VEv.bool false)) (fO (OF.pickF (VEv.tmpB Y (nz fhg59_7)) (tv (tB false) Y)) (mO (tB false) Y (VRunO.free (VWant.on (b:=false) Y Y Y) (OF.move (tv (tB (decide (x1.Kind=5))) Y)) (VRunO.free (VWant.on (b:=false) Y Y Y) (QZ (tv (tB (decide (x1.Kind=5))) Y)) (VRunO.free (VWant.on (b:=false) Y Y Y) (OF.move (tv (tB (!(decide (x1.Kind=5)))) Y)) (glf (tI x1.B) (nkF (dz fhg61_8)) Y Y Y Y Ze Y Y Q4 (gF (nkF (dz fhg61_8)) Y Y (xne (tv (tI x1.B) Y) (VEv.int .i64 0)) (VRunO.free (VWant.on (b:=false) Y Y Y) (OF.pickT (VEv.tmpB Y (nkF (dz fhg61_8))) (tv (tB (!(decide (x1.B=0)))) Y)) (fO (OF.pickF (tv (tB false) Y) (tv (tB (!(decide (x1.B=0)))) Y)) (nt ?_)))))))))))
  refine cn (x1.B=0) Y (fun fhc2=> ?_) fun fhc2=> ?_
  ·refine sr ?_
   refine fO (OF.assign (VEv.bool false)) (nt (rt (tr (vb (b':=false) Y ?_))))
   (symm;rw [decide_eq_false_iff_not,Ql hx1];rintro ⟨h1,h2,h3⟩;by_cases hk:x1.Kind=1<;>simp only [hk,YV] at* <;>(simp_all [QG];done))
  refine sk (tn (sr (mO (tB (decide (x1.Kind=5))) Y (mO (tB (decide (x1.Kind=5))) Y (glf (tI x1.Kind) (dz fhg61_8) Y Y Y Y Qy Y Y Q4 (gF (dz fhg61_8) Y Y (Jb (tv (tI x1.Kind) Y) (VEv.int .i64 2)) (fO (OF.pickF (VEv.tmpB Y (dz fhg61_8)) (tv (tB (decide (x1.Kind=2))) Y)) (mO (tB (decide (x1.Kind=2))) Y ?_))))))))
  refine gw (x1.Kind=2) (fun fhg85_10=> ?_) fun fhg85_10=> ?_
  ·refine QN 7 6 false 85 (dy fhg85_10) Y Y Y ?_
   refine fO (OF.pickT (VEv.tmpB Y (dy fhg85_10)) (VEv.bool true)) (aO (tB true) Y (nt (rt (vb (b':=true) Y ?_))))
   (symm;rw [decide_eq_true_eq,Ql hx1];refine ⟨by omega,fun hk=> ?_,fun hk=> ?_⟩<;>first | (exfalso;omega) | (simp_all [YV,QG];omega))
  refine gF (dz fhg85_10) Y Y (OF.move (tv (rd 4 Qa a) Y)) (glf (tI x1.A) (dz fhg85_10) Y Y Y Y Zt Y Y Q4 ?_)
  obtain ⟨x2,hx2⟩:∃x,a[(Int.toNat x1.A)]? =some x:=⟨_,List.getElem?_eq_getElem (by omega)⟩
  refine gF (dz fhg85_10) Y Y (OF.indexAddrR (row:=(Qa false x2)) (i:=(Int.toNat x1.A)) (tv (rd 4 Qa a) Y) (tv (tI x1.A) Y) (by omega) (Qr _ hx2) YR Zf ZR) (glr (tI x2.Kind) (dz fhg85_10) Y Y Y Y (lb Y) Qy Y Q4 (gF (dz fhg85_10) Y Y (Jb (tv (tI x2.Kind) Y) (VEv.int .i64 1)) (fO (OF.pickF (VEv.tmpB Y (dz fhg85_10)) (tv (tB (decide (x2.Kind=1))) Y)) (aO (tB (decide (x2.Kind=1))) Y (nt (rt (vb (b':=(decide (x2.Kind=1))) Y ?_)))))))
  (refine Qgl hx1 hx2 ?_ ?_ ?_ ?_ ?_ ?_ ?_<;>first | assumption | omega | (simp only [YV];omega))
 refine oD Y Y (nz fhg28_3) Y (oD Y Y (nz fhg28_3) Y (oD Y Y (nz fhg28_3) Y (VRunD.free Y (VWant.on Y Y hg24_2) Y (OF.pickF (VEv.tmpB Y (nz fhg28_3)) (VEv.bool false)) (fD (OF.pickF (VEv.tmpB Y hg24_2) (tv (tB false) Y)) Y Y (VRunD.nil (tn (cf Y (sk (tn (sr (lf (tI x1.Kind) Y Qy Y Y Q4 ?_)))))))))))
 refine fO (Jb (tv (tI x1.Kind) Y) (VEv.int .i64 4)) (mO (tB (decide (x1.Kind=4))) Y ?_)
 refine gw (x1.Kind=4) (fun fhg37_11=> ?_) fun fhg37_11=> ?_
 ·refine QN 3 3 false 37 (dy fhg37_11) Y Y Y ?_
  refine fO (OF.pickT (VEv.tmpB Y (dy fhg37_11)) (VEv.bool true)) (aO (tB true) Y (nt (sq (sr (lf (tI x1.Kind) Y Qy Y Y Q4 (fO (Jb (tv (tI x1.Kind) Y) (VEv.int .i64 1)) (nt (ck (dy fhg28_3) Y (sr (lf (tI x1.A) Y Zt Y Y Q4 (fO (Jb (tv (tI x1.A) Y) (VEv.int .i64 0)) ?_)))))))))))
  refine mO (tB (decide (x1.A=0))) Y ?_
  refine gw (x1.A=0) (fun fhg48_12=> ?_) fun fhg48_12=> ?_
  ·refine glf (tI x1.B) (dy fhg48_12) Y Y Y Y Ze Y Y Q4 ?_
   refine gF (dy fhg48_12) Y Y (Jb (tv (tI x1.B) Y) (VEv.int .i64 0)) (fO (OF.pickT (VEv.tmpB Y (dy fhg48_12)) (tv (tB (decide (x1.B=0))) Y)) (aO (tB (decide (x1.B=0))) Y (nt (rt (tr (vb (b':=(decide (x1.B=0))) Y ?_))))))
   (exfalso;omega)
  refine QN 3 3 true 48 (dz fhg48_12) Y Y Y (fO (OF.pickF (VEv.tmpB Y (dz fhg48_12)) (VEv.bool false)) (aO (tB false) Y (nt (rt (tr (vb (b':=false) Y ?_))))))
  (exfalso;omega)
 refine glf (tI x1.Kind) (dz fhg37_11) Y Y Y Y Qy Y Y Q4 (gF (dz fhg37_11) Y Y (Jb (tv (tI x1.Kind) Y) (VEv.int .i64 5)) (fO (OF.pickF (VEv.tmpB Y (dz fhg37_11)) (tv (tB (decide (x1.Kind=5))) Y)) (aO (tB (decide (x1.Kind=5))) Y (nt (sq (sr (lf (tI x1.Kind) Y Qy Y Y Q4 (fO (Jb (tv (tI x1.Kind) Y) (VEv.int .i64 1)) (nt (ck (dy fhg28_3) Y (sr ?_)))))))))))
 refine lf (tI x1.A) Y Zt Y Y Q4 (fO (Jb (tv (tI x1.A) Y) (VEv.int .i64 0)) (mO (tB (decide (x1.A=0))) Y ?_))
 refine gw (x1.A=0) (fun fhg48_13=> ?_) fun fhg48_13=> ?_
 ·refine glf (tI x1.B) (dy fhg48_13) Y Y Y Y Ze Y Y Q4 ?_
  refine gF (dy fhg48_13) Y Y (Jb (tv (tI x1.B) Y) (VEv.int .i64 0)) (fO (OF.pickT (VEv.tmpB Y (dy fhg48_13)) (tv (tB (decide (x1.B=0))) Y)) (aO (tB (decide (x1.B=0))) Y (nt (rt (tr (vb (b':=(decide (x1.B=0))) Y ?_))))))
  (refine Qgg hx1 ?_ ?_ ?_ ?_<;>first | assumption | (simp_all;done))
 refine QN 3 3 true 48 (dz fhg48_13) Y Y Y (fO (OF.pickF (VEv.tmpB Y (dz fhg48_13)) (VEv.bool false)) (aO (tB false) Y (nt (rt (tr (vb (b':=false) Y ?_))))))
 (symm;rw [decide_eq_false_iff_not,Ql hx1];rintro ⟨h1,h2,h3⟩;by_cases hk:x1.Kind=1<;>simp only [hk,YV] at* <;>(simp_all [QG];done))
theorem Jh (n:Nat) (a:List D.Step) (hz:zL QD a≤mx):Pure (Qo Tryd.prog (n+4)) 111 [(rd 4 Qa a)] (tB (decide (QJ a))):=by
 refine Pure.intro (rs:= [ResultVar.tmp 2]) Tryd.func111 Y Y Y (E0:= [(0,(rd 4 Qa a))]) Y ?_
 obtain ⟨hlim,hmx,hmax⟩:=QM
 have ha:=Zr (z:=QD) a
 refine sr (fO (OF.assign (VEv.bool false)) (nt (sq (sr (fO (OF.assign (VEv.int .i64 0)) (nt (VRun.block ?_)))))))
 refine VRun.loop (A:=Nat) (fun s_=> [(0,(rd 4 Qa a)),(3,(tN s_))]) (fun s_=>Yc []) 0 (fun s_=>s_≤a.length∧∀j,j<s_→ZK a j) (fun s_=>a.length - s_) (0:Nat) ?_ (Wk.mk (fun k=>k) ?_ ?_ ?_) ?_
 ·exact ⟨Nat.zero_le _,fun j hj=>by omega⟩
 ·exact (b2 (b2 bn))
 ·exact bn
 ·exact nd Y
 rintro i (hI':i≤a.length∧∀j,j<i→ZK a j)
 show VRun _ _ _ [(0,(rd 4 Qa a)),(3,(tN i))] (Yc []) 0 _
 have hI0:=hI'
 refine sq (sr (mO (tN i) Y (mO (rd 4 Qa a) Y (lO (B.lenR (m:=a.length) (tv (rd 4 Qa a) Y) YR (List.length_map ..)) (fO (YA (tv (tN i) Y) (tv (tN a.length) Y)) (mO (tB (decide (i<a.length))) Y ?_))))))
 refine gw (i<a.length) (fun fhg8_1=> ?_) fun fhg8_1=> ?_
 ·refine gF (dy fhg8_1) Y Y (OF.move (tv (rd 4 Qa a) Y)) ?_
  refine gL (dy fhg8_1) Y Y (B.lenR (m:=a.length) (tv (rd 4 Qa a) Y) YR (List.length_map ..)) (gF (dy fhg8_1) Y Y (B.leq (c:=(decide (a.length≤9))) (tv (tN a.length) Y) (VEv.int .i64 9) (Yv (by omega))) (fO (OF.pickT (VEv.tmpB Y (dy fhg8_1)) (tv (tB (decide (a.length≤9))) Y)) (nt ?_)))
  refine cd (a.length≤9) Y (fun fhc0=> ?_) fun fhc0=> ?_
  ·refine sk ?_
   refine tn (sq (VRun.block (sr (mO (rd 4 Qa a) Y (mO (tN i) Y (cO (cS (vc (tv (rd 4 Qa a) Y) (vc (tv (tN i) Y) vn)) (Zj Y) (Qb5 (n+0) a i (by assumption) (by assumption)) Y Y) (fO (QZ (tv (tB (decide (ZK a i))) Y)) (nt ?_))))))))
   refine cn (ZK a i) Y (fun fhc1=> ?_) fun fhc1=> ?_
   ·refine sr ?_
    refine fO (OF.assign (VEv.bool false)) (nt (rt (vinB.r (tr (tr (vinB.r (tr (vb (b':=false) Y ?_))))))))
    (symm;rw [decide_eq_false_iff_not];rintro ⟨h1,h2⟩;exact absurd (h2 i (by omega)) (by assumption))
   refine sk (vinB.n (tn (VRun.region (mO (tN i) Y (fO (Zk (tv (tN i) Y) (VEv.int .i64 1) (by omega)) (aO (tN (i+1)) Y (VRunO.nil (tn ?_))))))))
   refine ⟨(i+1:Nat),?_,?_,Wk.mk (fun k=>k) ?_ ?_ ?_⟩
   ·exact Ye hI0 (by omega) (by assumption)
   ·omega
   ·exact (b2 (b2 bn))
   ·exact bn
   ·exact nd Y
  refine VRun.exit (vthn.e (vthn.e (vinB.e (tn (sr (mO (rd 4 Qa a) Y (lO (B.lenR (m:=a.length) (tv (rd 4 Qa a) Y) YR (List.length_map ..)) (cO (cS (vc (tv (tN a.length) Y) (vc (VEv.int .i64 1) (vc (VEv.int .i64 9) vn))) (Zj Y) (QP (n+2) ((a.length:Nat):Int) 1 9) Y Y) (aO (tB (decide (1≤((a.length:Nat):Int)∧((a.length:Nat):Int)≤9))) Y (nt (rt ?_)))))))))))
  refine vb (b':=(decide (1≤((a.length:Nat):Int)∧((a.length:Nat):Int)≤9))) Y ?_
  (refine Yv ⟨fun h=>⟨by omega,Qbc hI' (by omega)⟩,fun h=>by have:=h.1;omega⟩)
 refine QN 3 4 true 8 (dz fhg8_1) Y Y Y (fO (OF.pickF (VEv.tmpB Y (dz fhg8_1)) (VEv.bool false)) (nt (cf Y (VRun.exit (vthn.e (vthn.e (vinB.e (tn (sr (mO (rd 4 Qa a) Y (lO (B.lenR (m:=a.length) (tv (rd 4 Qa a) Y) YR (List.length_map ..)) ?_)))))))))))
 refine cO (cS (vc (tv (tN a.length) Y) (vc (VEv.int .i64 1) (vc (VEv.int .i64 9) vn))) (Zj Y) (QP (n+2) ((a.length:Nat):Int) 1 9) Y Y) (aO (tB (decide (1≤((a.length:Nat):Int)∧((a.length:Nat):Int)≤9))) Y (nt (rt (vb (b':=(decide (1≤((a.length:Nat):Int)∧((a.length:Nat):Int)≤9))) Y ?_))))
 (refine Yv ⟨fun h=>⟨by omega,Qbc hI' (by omega)⟩,fun h=>by have:=h.1;omega⟩)
theorem Jg (n:Nat) (a:List D.Step) (hz:zL QD a≤mx):Pure (Qo Tryd.prog (n+3)) 114 [(rd 4 Qa a)] (tB (decide (QJ a))):=by
 refine Pure.intro (rs:= [ResultVar.tmp 2]) Tryd.func114 Y Y Y (E0:= [(0,(rd 4 Qa a))]) Y ?_
 obtain ⟨hlim,hmx,hmax⟩:=QM
 have ha:=Zr (z:=QD) a
 have hw:∀x∈a,x.Word.size≤maxLen:=fun x hx=>by have h1:=QeE (z:=QD) hx;simp only [QD] at h1;omega
 refine sr (fO (OF.assign (VEv.bool false)) (nt (sq (sr (mO (rd 4 Qa a) Y (lO (B.lenR (m:=a.length) (tv (rd 4 Qa a) Y) YR (List.length_map ..)) (cO (cS (vc (tv (tN a.length) Y) (vc (VEv.int .i64 1) (vc (VEv.int .i64 9) vn))) (Zj Y) (Zu (n+1) ((a.length:Nat):Int) 1 9) Y Y) (fO (QZ (tv (tB (decide (1≤((a.length:Nat):Int)∧((a.length:Nat):Int)≤9))) Y)) (nt ?_)))))))))
 refine cn (1≤((a.length:Nat):Int)∧((a.length:Nat):Int)≤9) Y (fun fhc0=> ?_) fun fhc0=> ?_
 ·refine sr ?_
  refine fO (OF.assign (VEv.bool false)) (nt (rt (tr (vb (b':=false) Y ?_))))
  (symm;rw [decide_eq_false_iff_not];rintro ⟨h1,h2⟩;(exfalso;omega))
 refine sk (tn (sq (sr (mO (rd 4 Qa a) Y (lO (B.lenR (m:=a.length) (tv (rd 4 Qa a) Y) YR (List.length_map ..)) (fO (OF.move (VEv.int .i64 0)) (nt (VRun.block ?_))))))))
 refine VRun.loop (A:=Nat) (fun s_=> [(0,(rd 4 Qa a)),(9,(rd 4 Qa a)),(10,(tN a.length)),(11,(tN s_))]) (fun s_=>Yc []) 0 (fun s_=>s_≤a.length∧∀j,j<s_→ZK a j) (fun s_=>a.length - s_) (0:Nat) ?_ (Wk.mk (fun k=>k) ?_ ?_ ?_) ?_
 ·exact ⟨Nat.zero_le _,fun j hj=>by omega⟩
 ·exact (b2 (b2 (b2 (b2 bn))))
 ·exact bn
 ·exact nd Y
 rintro i (hI':i≤a.length∧∀j,j<i→ZK a j)
 show VRun _ _ _ [(0,(rd 4 Qa a)),(9,(rd 4 Qa a)),(10,(tN a.length)),(11,(tN i))] (Yc []) 0 _
 have hI0:=hI'
 refine sr (fO (YA (tv (tN i) Y) (tv (tN a.length) Y)) (nt (sq ?_)))
 refine cd (i<a.length) Y (fun fhc1=> ?_) fun fhc1=> ?_
 ·refine sk ?_
  refine tn (sq (VRun.block (sr (mO (tN i) Y ?_))))
  obtain ⟨x1,hx1⟩:∃x,a[i]? =some x:=⟨_,List.getElem?_eq_getElem (by omega)⟩
  refine fO (OF.indexAddrR (row:=(Qa false x1)) (i:=i) (tv (rd 4 Qa a) Y) (tv (tN i) Y) Y (Qr _ hx1) YR Zf ZR) (lO (OL.loadRn (us:=(Qa false x1)) (tv (T.rp (Qa false x1)) Y) Qdb Zf (lb Y) Y) (kO (B.alloc (t:=(T.agg [(tN 0),(tS ByteArray.empty),(tN 0),(tN 0)])) (ts:= [(tN 0),(tS ByteArray.empty),(tN 0),(tN 0)]) Qd0 Qd1 nofun (fun _=> .agg _ _ Y (Qaf (RL.cons (.int _ _) (RL.cons (.str _) (RL.cons (.int _ _) (RL.cons (.int _ _) (RL.nil _))))))) Y) (aO (tN i) Y (cO (B.storeW (us:=(Qa false x1)) (tv (T.op 0 0) Y) (tv (T.agg (Qa false x1)) Y) nofun Y Y Y ZR Zf (bc Y (bc Y (bc Y (bc Y bn))))) (nt (sq (sr (lf (tI x1.Kind) Y Qy Y Y Q4 (cO (cS (vc (tv (tI x1.Kind) Y) (vc (VEv.int .i64 1) (vc (VEv.int .i64 9) vn))) (Zj Y) (Zu (n+1) x1.Kind 1 9) Y Y) (fO (QZ (tv (tB (decide (1≤x1.Kind∧x1.Kind≤9))) Y)) (nt ?_)))))))))))
  refine cn (1≤x1.Kind∧x1.Kind≤9) Y (fun fhc2=> ?_) fun fhc2=> ?_
  ·refine sr ?_
   refine fO (OF.assign (VEv.bool false)) (nt (rt (tr (vinB.r (tr (tr (vinB.r (tr (vb (b':=false) Y ?_)))))))))
   (symm;rw [decide_eq_false_iff_not];rintro ⟨h1,h2⟩;(have h3:=(Ql hx1).1 (h2 i fhc1);obtain ⟨h4,h5,h6⟩:=h3;simp only [YV] at h6;omega))
  refine sk (tn (sq (sr (lf (tI x1.Kind) Y Qy Y Y Q4 (fO (Jb (tv (tI x1.Kind) Y) (VEv.int .i64 1)) (nt ?_))))))
  refine cd (x1.Kind=1) Y (fun fhc3=> ?_) fun fhc3=> ?_
  ·refine sq ?_
   refine sr (lf (tS x1.Word) Y Y1 Y Y st9 (cO (cS (vc (tv (tS x1.Word) Y) vn) (Zj Y) (Yo (n+0) x1.Word (by exact hw _ (List.mem_of_getElem? hx1))) Y Y) (fO (QZ (tv (tB (decide (QE x1.Word))) Y)) (mO (tB (!(decide (QE x1.Word)))) Y ?_))))
   refine gn (QE x1.Word) (fun fhg27_1=> ?_) fun fhg27_1=> ?_
   ·refine QN 3 4 false 27 (ny fhg27_1) Y Y Y ?_
    refine fO (OF.pickT (VEv.tmpB Y (ny fhg27_1)) (VEv.bool true)) (mO (tB true) Y (QN 3 9 false 32 (b:=true) Y Y Y Y (fO (OF.pickT (tv (tB true) Y) (VEv.bool true)) (nt (ct Y (sr (fO (OF.assign (VEv.bool false)) (nt (rt (tr (tr ?_)))))))))))
    refine vinB.r (tr (tr (vinB.r (tr (vb (b':=false) Y ?_)))))
    (symm;rw [decide_eq_false_iff_not];rintro ⟨h1,h2⟩;(have h3:=(Ql hx1).1 (h2 i fhc1);obtain ⟨h4,h5,h6⟩:=h3;simp only [YV] at h6;(by_cases hk:x1.Kind=1<;>simp_all<;>omega)))
   refine glf (tI x1.A) (nz fhg27_1) Y Y Y Y Zt Y Y Q4 (gF (nz fhg27_1) Y Y (xne (tv (tI x1.A) Y) (VEv.int .i64 0)) (fO (OF.pickF (VEv.tmpB Y (nz fhg27_1)) (tv (tB (!(decide (x1.A=0)))) Y)) (mO (tB (!(decide (x1.A=0)))) Y ?_)))
   refine gn (x1.A=0) (fun fhg32_2=> ?_) fun fhg32_2=> ?_
   ·refine QN 3 9 false 32 (ny fhg32_2) Y Y Y ?_
    refine fO (OF.pickT (VEv.tmpB Y (ny fhg32_2)) (VEv.bool true)) (nt (ct Y (sr (fO (OF.assign (VEv.bool false)) (nt (rt (tr (tr (vinB.r (tr (tr ?_)))))))))))
    refine vinB.r (tr (vb (b':=false) Y ?_))
    (symm;rw [decide_eq_false_iff_not];rintro ⟨h1,h2⟩;(have h3:=(Ql hx1).1 (h2 i fhc1);obtain ⟨h4,h5,h6⟩:=h3;simp only [YV] at h6;omega))
   refine glf (tI x1.B) (nz fhg32_2) Y Y Y Y Ze Y Y Q4 (gF (nz fhg32_2) Y Y (xne (tv (tI x1.B) Y) (VEv.int .i64 0)) (fO (OF.pickF (VEv.tmpB Y (nz fhg32_2)) (tv (tB (!(decide (x1.B=0)))) Y)) (nt ?_)))
   refine cn (x1.B=0) Y (fun fhc4=> ?_) fun fhc4=> ?_
   ·refine sr ?_
    refine fO (OF.assign (VEv.bool false)) (nt (rt (tr (tr (vinB.r (tr (tr (vinB.r (tr (vb (b':=false) Y ?_))))))))))
    (symm;rw [decide_eq_false_iff_not];rintro ⟨h1,h2⟩;(have h3:=(Ql hx1).1 (h2 i fhc1);obtain ⟨h4,h5,h6⟩:=h3;simp only [YV] at h6;omega))
   refine sk (tn (VRun.exit (vthn.e (vinB.e (tn (VRun.region (fO (Zk (tv (tN i) Y) (VEv.int .i64 1) (by omega)) (mO (tN (i+1)) Y (VRunO.nil (tn ?_))))))))))
   refine ⟨(i+1:Nat),?_,?_,Wk.mk (fun k=>k) ?_ ?_ ?_⟩
   ·refine Ye hI0 fhc1 ((Ql hx1).2 ?_)
    simp only [Qak,YV]
    refine ⟨by omega,fun hk=> ?_,fun hk=> ?_⟩
    ·(refine ⟨?_,?_,?_⟩<;>assumption)
    ·(exfalso;omega)
   ·omega
   ·exact (b2 (b2 (b2 (b2 bn))))
   ·exact bn
   ·exact nd Y
  refine sk (tn (sq (sr (lf (tS x1.Word) Y Y1 Y Y st9 (fO (B.sneq (c:=(!(decide (x1.Word=(⟨#[]⟩:ByteArray))))) (tv (tS x1.Word) Y) (VEv.str (⟨#[]⟩:ByteArray)) Y) (mO (tB (!(decide (x1.Word=(⟨#[]⟩:ByteArray))))) Y ?_))))))
  refine gn (x1.Word=(⟨#[]⟩:ByteArray)) (fun fhg40_3=> ?_) fun fhg40_3=> ?_
  ·refine QN 5 3 false 40 (ny fhg40_3) Y Y Y ?_
   refine fO (OF.pickT (VEv.tmpB Y (ny fhg40_3)) (VEv.bool true)) (mO (tB true) Y (QN 4 10 false 47 (b:=true) Y Y Y Y (QbC 7 14 true 51 Y Y Y (VRunO.off (VWant.not (b:=true) Y Y Y) (fO (OF.pickT (tv (tB true) Y) (VEv.bool true)) (nt (ct Y (sr (fO (OF.assign (VEv.bool false)) (nt (rt ?_)))))))))))
   refine tr (vinB.r (tr (tr (vinB.r (tr (vb (b':=false) Y ?_))))))
   (symm;rw [decide_eq_false_iff_not];rintro ⟨h1,h2⟩;(have h3:=(Ql hx1).1 (h2 i fhc1);obtain ⟨h4,h5,h6⟩:=h3;simp only [YV] at h6;(by_cases hk:x1.Kind=1<;>simp_all<;>omega)))
  refine glf (tI x1.A) (nz fhg40_3) Y Y Y Y Zt Y Y Q4 (gF (nz fhg40_3) Y Y (OF.move (tv (tN i) Y)) (VRunO.chain (VWant.on Y Y (nz fhg40_3)) (cS (vc (tv (tI x1.A) Y) (vc (tv (tN i) Y) vn)) (Zj Y) (Y6 (n+1) x1.A ((i:Nat):Int)) Y Y) (gF (nz fhg40_3) Y Y (QZ (tv (tB (decide (0≤x1.A∧x1.A<((i:Nat):Int)))) Y)) (fO (OF.pickF (VEv.tmpB Y (nz fhg40_3)) (tv (tB (!(decide (0≤x1.A∧x1.A<((i:Nat):Int))))) Y)) (mO (tB (!(decide (0≤x1.A∧x1.A<((i:Nat):Int))))) Y ?_)))))
  refine gn (0≤x1.A∧x1.A<((i:Nat):Int)) (fun fhg47_4=> ?_) fun fhg47_4=> ?_
  ·refine QN 4 10 false 47 (ny fhg47_4) Y Y Y ?_
   refine QbC 7 14 true 51 Y Y Y (oO Y Y (ny fhg47_4) (fO (OF.pickT (VEv.tmpB Y (ny fhg47_4)) (VEv.bool true)) (nt (ct Y (sr (fO (OF.assign (VEv.bool false)) (nt (rt (tr (vinB.r (tr ?_)))))))))))
   refine tr (vinB.r (tr (vb (b':=false) Y ?_)))
   (symm;rw [decide_eq_false_iff_not];rintro ⟨h1,h2⟩;(have h3:=(Ql hx1).1 (h2 i fhc1);obtain ⟨h4,h5,h6⟩:=h3;simp only [YV] at h6;omega))
  refine glf (tI x1.Kind) (nz fhg47_4) Y Y Y Y Qy Y Y Q4 (VRunO.chain (VWant.on Y Y (nz fhg47_4)) (cS (vc (tv (tI x1.Kind) Y) vn) (Zj Y) (Qaa (n+1) x1.Kind) Y Y) (gF (nz fhg47_4) Y Y (OF.move (tv (tB (decide (x1.Kind=3∨6≤x1.Kind))) Y)) ?_))
  refine gw (x1.Kind=3∨6≤x1.Kind) (fun fhg51_5=> ?_) fun fhg51_5=> ?_
  ·refine gF (dy fhg51_5) Y Y (OF.move (tv (rd 4 Qa a) Y)) ?_
   refine glf (tI x1.A) (dy fhg51_5) Y Y Y Y Zt Y Y Q4 ?_
   obtain ⟨x2,hx2⟩:∃x,a[(Int.toNat x1.A)]? =some x:=⟨_,List.getElem?_eq_getElem (by omega)⟩
   refine gF (dy fhg51_5) Y Y (OF.indexAddrR (row:=(Qa false x2)) (i:=(Int.toNat x1.A)) (tv (rd 4 Qa a) Y) (tv (tI x1.A) Y) (by omega) (Qr _ hx2) YR Zf ZR) (glr (tI x2.Kind) (dy fhg51_5) Y Y Y Y (lb Y) Qy Y Q4 (gF (dy fhg51_5) Y Y (xne (tv (tI x2.Kind) Y) (VEv.int .i64 1)) (gF (nz fhg47_4) Y Y (OF.pickT (VEv.tmpB Y (dy fhg51_5)) (tv (tB (!(decide (x2.Kind=1)))) Y)) (fO (OF.pickF (VEv.tmpB Y (nz fhg47_4)) (tv (tB (!(decide (x2.Kind=1)))) Y)) (nt ?_)))))
   refine cn (x2.Kind=1) Y (fun fhc5=> ?_) fun fhc5=> ?_
   ·refine sr ?_
    refine fO (OF.assign (VEv.bool false)) (nt (rt (tr (vinB.r (tr (tr (vinB.r (tr (vb (b':=false) Y ?_)))))))))
    (symm;rw [decide_eq_false_iff_not];rintro ⟨h1,h2⟩;(have h3:=(Ql hx1).1 (h2 i fhc1);obtain ⟨h4,h5,h6⟩:=h3;simp only [YV] at h6;(by_cases hk:x1.Kind=1<;>simp_all<;>omega)))
   refine sk (tn (sr (lf (tI x1.Kind) Y Qy Y Y Q4 (cO (cS (vc (tv (tI x1.Kind) Y) vn) (Zj Y) (QV (n+1) x1.Kind) Y Y) (mO (tB (decide (x1.Kind=4∨x1.Kind=5))) Y ?_)))))
   refine gw (x1.Kind=4∨x1.Kind=5) (fun fhg64_6=> ?_) fun fhg64_6=> ?_
   ·refine glf (tI x1.B) (dy fhg64_6) Y Y Y Y Ze Y Y Q4 ?_
    refine gF (dy fhg64_6) Y Y (OF.move (tv (tN i) Y)) (VRunO.chain (VWant.on Y Y (dy fhg64_6)) (cS (vc (tv (tI x1.B) Y) (vc (tv (tN i) Y) vn)) (Zj Y) (Y6 (n+1) x1.B ((i:Nat):Int)) Y Y) (gF (dy fhg64_6) Y Y (QZ (tv (tB (decide (0≤x1.B∧x1.B<((i:Nat):Int)))) Y)) (fO (OF.pickT (VEv.tmpB Y (dy fhg64_6)) (tv (tB (!(decide (0≤x1.B∧x1.B<((i:Nat):Int))))) Y)) (mO (tB (!(decide (0≤x1.B∧x1.B<((i:Nat):Int))))) Y ?_))))
    refine gn (0≤x1.B∧x1.B<((i:Nat):Int)) (fun fhg71_7=> ?_) fun fhg71_7=> ?_
    ·refine QN 5 10 false 71 (ny fhg71_7) Y Y Y ?_
     refine QbC 3 15 true 76 Y Y Y (oO Y Y (ny fhg71_7) (fO (OF.pickT (VEv.tmpB Y (ny fhg71_7)) (VEv.bool true)) (nt (ct Y (sr (fO (OF.assign (VEv.bool false)) (nt (rt (vinB.r (tr (tr ?_)))))))))))
     refine vinB.r (tr (vb (b':=false) Y ?_))
     (symm;rw [decide_eq_false_iff_not];rintro ⟨h1,h2⟩;(exfalso;omega))
    refine glf (tI x1.Kind) (nz fhg71_7) Y Y Y Y Qy Y Y Q4 (VRunO.chain (VWant.on Y Y (nz fhg71_7)) (cS (vc (tv (tI x1.Kind) Y) vn) (Zj Y) (QV (n+1) x1.Kind) Y Y) (gF (nz fhg71_7) Y Y (QZ (tv (tB (decide (x1.Kind=4∨x1.Kind=5))) Y)) (gF (nz fhg71_7) Y Y (OF.move (tv (tB (!(decide (x1.Kind=4∨x1.Kind=5)))) Y)) (QN 3 15 true 76 (nkT (dy fhg64_6)) Y Y Y (gF (nz fhg71_7) Y Y (OF.pickF (VEv.tmpB Y (nkT (dy fhg64_6))) (VEv.bool false)) (fO (OF.pickF (VEv.tmpB Y (nz fhg71_7)) (tv (tB false) Y)) (nt (cf Y (sk (vinB.n (tn ?_)))))))))))
    refine VRun.region (fO (Zk (tv (tN i) Y) (VEv.int .i64 1) (by omega)) (mO (tN (i+1)) Y (VRunO.nil (tn ?_))))
    refine ⟨(i+1:Nat),?_,?_,Wk.mk (fun k=>k) ?_ ?_ ?_⟩
    ·refine Ye hI0 fhc1 ((Ql hx1).2 ?_)
     simp only [Qak,YV]
     refine ⟨by omega,fun hk=> ?_,fun hk=> ?_⟩
     ·(exfalso;omega)
     ·(exfalso;omega)
    ·omega
    ·exact (b2 (b2 (b2 (b2 bn))))
    ·exact bn
    ·exact nd Y
   refine QN 5 3 true 64 (dz fhg64_6) Y Y Y (fO (OF.pickF (VEv.tmpB Y (dz fhg64_6)) (VEv.bool false)) (mO (tB false) Y (VRunO.free (VWant.on (b:=false) Y Y Y) (OF.fieldAddrO (tv (T.op 0 0) Y) Qy) (VRunO.look (VWant.on (b:=false) Y Y Y) (OL.loadO1 (t:=(tI x1.Kind)) (tv (T.op 0 0) Y) Y Y Q4) (VRunO.chain (VWant.on (b:=false) Y Y Y) (cS (vc (tv (tI x1.Kind) Y) vn) (Zj Y) (QV (n+1) x1.Kind) Y Y) (VRunO.free (VWant.on (b:=false) Y Y Y) (QZ (tv (tB (decide (x1.Kind=4∨x1.Kind=5))) Y)) (VRunO.free (VWant.on (b:=false) Y Y Y) (OF.move (tv (tB (!(decide (x1.Kind=4∨x1.Kind=5)))) Y)) (glf (tI x1.B) (nkF (dz fhg64_6)) Y Y Y Y Ze Y Y Q4 (gF (nkF (dz fhg64_6)) Y Y (xne (tv (tI x1.B) Y) (VEv.int .i64 0)) (VRunO.free (VWant.on (b:=false) Y Y Y) (OF.pickT (VEv.tmpB Y (nkF (dz fhg64_6))) (tv (tB (!(decide (x1.B=0)))) Y)) (fO (OF.pickF (tv (tB false) Y) (tv (tB (!(decide (x1.B=0)))) Y)) ?_)))))))))))
   refine nt ?_
   refine cn (x1.B=0) Y (fun fhc6=> ?_) fun fhc6=> ?_
   ·refine sr ?_
    refine fO (OF.assign (VEv.bool false)) (nt (rt (vinB.r (tr (tr (vinB.r (tr (vb (b':=false) Y ?_))))))))
    (symm;rw [decide_eq_false_iff_not];rintro ⟨h1,h2⟩;(have h3:=(Ql hx1).1 (h2 i fhc1);obtain ⟨h4,h5,h6⟩:=h3;simp only [YV] at h6;omega))
   refine sk (vinB.n (tn (VRun.region (fO (Zk (tv (tN i) Y) (VEv.int .i64 1) (by omega)) (mO (tN (i+1)) Y (VRunO.nil (tn ?_)))))))
   refine ⟨(i+1:Nat),?_,?_,Wk.mk (fun k=>k) ?_ ?_ ?_⟩
   ·refine Ye hI0 fhc1 ((Ql hx1).2 ?_)
    simp only [Qak,YV]
    refine ⟨by omega,fun hk=> ?_,fun hk=> ?_⟩
    ·(exfalso;omega)
    ·(refine ⟨?_,?_,fun h=> ?_,fun h=> ?_,fun h1 h2=> ?_⟩<;>first | assumption | omega | (refine ⟨x2,hx2,?_⟩;omega))
   ·omega
   ·exact (b2 (b2 (b2 (b2 bn))))
   ·exact bn
   ·exact nd Y
  refine QN 7 14 true 51 (dz fhg51_5) Y Y Y (gF (nz fhg47_4) Y Y (OF.pickF (VEv.tmpB Y (dz fhg51_5)) (VEv.bool false)) (fO (OF.pickF (VEv.tmpB Y (nz fhg47_4)) (tv (tB false) Y)) (nt (cf Y (sk (tn (sr (lf (tI x1.Kind) Y Qy Y Y Q4 (cO (cS (vc (tv (tI x1.Kind) Y) vn) (Zj Y) (QV (n+1) x1.Kind) Y Y) (mO (tB (decide (x1.Kind=4∨x1.Kind=5))) Y ?_))))))))))
  refine gw (x1.Kind=4∨x1.Kind=5) (fun fhg64_8=> ?_) fun fhg64_8=> ?_
  ·refine glf (tI x1.B) (dy fhg64_8) Y Y Y Y Ze Y Y Q4 ?_
   refine gF (dy fhg64_8) Y Y (OF.move (tv (tN i) Y)) (VRunO.chain (VWant.on Y Y (dy fhg64_8)) (cS (vc (tv (tI x1.B) Y) (vc (tv (tN i) Y) vn)) (Zj Y) (Y6 (n+1) x1.B ((i:Nat):Int)) Y Y) (gF (dy fhg64_8) Y Y (QZ (tv (tB (decide (0≤x1.B∧x1.B<((i:Nat):Int)))) Y)) (fO (OF.pickT (VEv.tmpB Y (dy fhg64_8)) (tv (tB (!(decide (0≤x1.B∧x1.B<((i:Nat):Int))))) Y)) (mO (tB (!(decide (0≤x1.B∧x1.B<((i:Nat):Int))))) Y ?_))))
   refine gn (0≤x1.B∧x1.B<((i:Nat):Int)) (fun fhg71_9=> ?_) fun fhg71_9=> ?_
   ·refine QN 5 10 false 71 (ny fhg71_9) Y Y Y ?_
    refine QbC 3 15 true 76 Y Y Y (oO Y Y (ny fhg71_9) (fO (OF.pickT (VEv.tmpB Y (ny fhg71_9)) (VEv.bool true)) (nt (ct Y (sr (fO (OF.assign (VEv.bool false)) (nt (rt (vinB.r (tr (tr ?_)))))))))))
    refine vinB.r (tr (vb (b':=false) Y ?_))
    (symm;rw [decide_eq_false_iff_not];rintro ⟨h1,h2⟩;(have h3:=(Ql hx1).1 (h2 i fhc1);obtain ⟨h4,h5,h6⟩:=h3;simp only [YV] at h6;omega))
   refine glf (tI x1.Kind) (nz fhg71_9) Y Y Y Y Qy Y Y Q4 (VRunO.chain (VWant.on Y Y (nz fhg71_9)) (cS (vc (tv (tI x1.Kind) Y) vn) (Zj Y) (QV (n+1) x1.Kind) Y Y) (gF (nz fhg71_9) Y Y (QZ (tv (tB (decide (x1.Kind=4∨x1.Kind=5))) Y)) (gF (nz fhg71_9) Y Y (OF.move (tv (tB (!(decide (x1.Kind=4∨x1.Kind=5)))) Y)) (QN 3 15 true 76 (nkT (dy fhg64_8)) Y Y Y (gF (nz fhg71_9) Y Y (OF.pickF (VEv.tmpB Y (nkT (dy fhg64_8))) (VEv.bool false)) (fO (OF.pickF (VEv.tmpB Y (nz fhg71_9)) (tv (tB false) Y)) (nt (cf Y (sk (vinB.n (tn ?_)))))))))))
   refine VRun.region (fO (Zk (tv (tN i) Y) (VEv.int .i64 1) (by omega)) (mO (tN (i+1)) Y (VRunO.nil (tn ?_))))
   refine ⟨(i+1:Nat),?_,?_,Wk.mk (fun k=>k) ?_ ?_ ?_⟩
   ·refine Ye hI0 fhc1 ((Ql hx1).2 ?_)
    simp only [Qak,YV]
    refine ⟨by omega,fun hk=> ?_,fun hk=> ?_⟩
    ·(exfalso;omega)
    ·(refine ⟨?_,?_,fun h=> ?_,fun h=> ?_,fun h1 h2=> ?_⟩<;>first | assumption | omega)
   ·omega
   ·exact (b2 (b2 (b2 (b2 bn))))
   ·exact bn
   ·exact nd Y
  refine QN 5 3 true 64 (dz fhg64_8) Y Y Y (fO (OF.pickF (VEv.tmpB Y (dz fhg64_8)) (VEv.bool false)) (mO (tB false) Y (VRunO.free (VWant.on (b:=false) Y Y Y) (OF.fieldAddrO (tv (T.op 0 0) Y) Qy) (VRunO.look (VWant.on (b:=false) Y Y Y) (OL.loadO1 (t:=(tI x1.Kind)) (tv (T.op 0 0) Y) Y Y Q4) (VRunO.chain (VWant.on (b:=false) Y Y Y) (cS (vc (tv (tI x1.Kind) Y) vn) (Zj Y) (QV (n+1) x1.Kind) Y Y) (VRunO.free (VWant.on (b:=false) Y Y Y) (QZ (tv (tB (decide (x1.Kind=4∨x1.Kind=5))) Y)) (VRunO.free (VWant.on (b:=false) Y Y Y) (OF.move (tv (tB (!(decide (x1.Kind=4∨x1.Kind=5)))) Y)) (glf (tI x1.B) (nkF (dz fhg64_8)) Y Y Y Y Ze Y Y Q4 (gF (nkF (dz fhg64_8)) Y Y (xne (tv (tI x1.B) Y) (VEv.int .i64 0)) (VRunO.free (VWant.on (b:=false) Y Y Y) (OF.pickT (VEv.tmpB Y (nkF (dz fhg64_8))) (tv (tB (!(decide (x1.B=0)))) Y)) (fO (OF.pickF (tv (tB false) Y) (tv (tB (!(decide (x1.B=0)))) Y)) ?_)))))))))))
  refine nt ?_
  refine cn (x1.B=0) Y (fun fhc6=> ?_) fun fhc6=> ?_
  ·refine sr ?_
   refine fO (OF.assign (VEv.bool false)) (nt (rt (vinB.r (tr (tr (vinB.r (tr (vb (b':=false) Y ?_))))))))
   (symm;rw [decide_eq_false_iff_not];rintro ⟨h1,h2⟩;(have h3:=(Ql hx1).1 (h2 i fhc1);obtain ⟨h4,h5,h6⟩:=h3;simp only [YV] at h6;omega))
  refine sk (vinB.n (tn (VRun.region (fO (Zk (tv (tN i) Y) (VEv.int .i64 1) (by omega)) (mO (tN (i+1)) Y (VRunO.nil (tn ?_)))))))
  refine ⟨(i+1:Nat),?_,?_,Wk.mk (fun k=>k) ?_ ?_ ?_⟩
  ·refine Ye hI0 fhc1 ((Ql hx1).2 ?_)
   simp only [Qak,YV]
   refine ⟨by omega,fun hk=> ?_,fun hk=> ?_⟩
   ·(exfalso;omega)
   ·(refine ⟨?_,?_,fun h=> ?_,fun h=> ?_,fun h1 h2=> ?_⟩<;>first | assumption | omega)
  ·omega
  ·exact (b2 (b2 (b2 (b2 bn))))
  ·exact bn
  ·exact nd Y
 refine VRun.exit (vthn.e (vthn.e (vinB.e (tn (sr (fO (OF.assign (VEv.bool true)) (nt (rt (vb (b':=true) Y ?_)))))))))
 (symm;rw [decide_eq_true_eq];exact ⟨by omega,Qbc hI' fhc1⟩)
theorem Qbw (n:Nat) (a:D.Clue) (hz:QK a≤mx):Pure (Qo Tryd.prog (n+5)) 84 [(T.agg (Qi false a))] (tB (decide ((1≤a.Sense∧a.Sense≤99)∧QJ a.Play))):=by
 refine Pure.intro (rs:= [ResultVar.tmp 2]) Tryd.func84 Y Y Y (E0:= [(0,(T.agg (Qi false a)))]) Y ?_
 obtain ⟨hlim,hmx,hmax⟩:=QM
 simp only [QK] at hz
 refine sr (kO (B.box (ts:=(Qi false a)) (tv (T.agg (Qi false a)) Y) nofun Y) (fO (OF.assign (VEv.bool false)) (nt (sr (lf (tI a.Sense) Y QaU Y Y Q4 (cO (cS (vc (tv (tI a.Sense) Y) (vc (VEv.int .i64 1) (vc (VEv.int .i64 99) vn))) (Zj Y) (QP (n+3) a.Sense 1 99) Y Y) (mO (tB (decide (1≤a.Sense∧a.Sense≤99))) Y ?_)))))))
 refine gw (1≤a.Sense∧a.Sense≤99) (fun fhg6_1=> ?_) fun fhg6_1=> ?_
 ·refine glf (rd 4 Qa a.Play) (dy fhg6_1) Y Y Y Y ZM Y Y Qa9 ?_
  refine VRunO.chain (VWant.on Y Y (dy fhg6_1)) (cS (vc (tv (rd 4 Qa a.Play) Y) vn) (Zj Y) (Jh (n+0) a.Play (by assumption)) Y Y) (fO (OF.pickT (VEv.tmpB Y (dy fhg6_1)) (tv (tB (decide (QJ a.Play))) Y)) (aO (tB (decide (QJ a.Play))) Y (nt (rt (vb (b':=(decide (QJ a.Play))) Y ?_)))))
  (refine Yv ⟨fun h=>⟨?_,h⟩,fun h=>h.2⟩;assumption)
 refine QN 3 3 true 6 (dz fhg6_1) Y Y Y (fO (OF.pickF (VEv.tmpB Y (dz fhg6_1)) (VEv.bool false)) (aO (tB false) Y (nt (rt (vb (b':=false) Y ?_)))))
 (symm;rw [decide_eq_false_iff_not];rintro ⟨h1,h2⟩;contradiction)
theorem QbI (n:Nat) (a:D.Clue) (hz:QK a≤mx):Pure (Qo Tryd.prog (n+4)) 90 [(T.agg (Qi false a))] (tB (decide ((1≤a.Sense∧a.Sense≤99)∧QJ a.Play))):=by
 refine Pure.intro (rs:= [ResultVar.tmp 2]) Tryd.func90 Y Y Y (E0:= [(0,(T.agg (Qi false a)))]) Y ?_
 obtain ⟨hlim,hmx,hmax⟩:=QM
 simp only [QK] at hz
 refine sr (kO (B.box (ts:=(Qi false a)) (tv (T.agg (Qi false a)) Y) nofun Y) (fO (OF.assign (VEv.bool false)) (nt (sr (lf (tI a.Sense) Y QaU Y Y Q4 (cO (cS (vc (tv (tI a.Sense) Y) (vc (VEv.int .i64 1) (vc (VEv.int .i64 99) vn))) (Zj Y) (Zu (n+2) a.Sense 1 99) Y Y) (mO (tB (decide (1≤a.Sense∧a.Sense≤99))) Y ?_)))))))
 refine gw (1≤a.Sense∧a.Sense≤99) (fun fhg6_1=> ?_) fun fhg6_1=> ?_
 ·refine glf (rd 4 Qa a.Play) (dy fhg6_1) Y Y Y Y ZM Y Y Qa9 ?_
  refine VRunO.chain (VWant.on Y Y (dy fhg6_1)) (cS (vc (tv (rd 4 Qa a.Play) Y) vn) (Zj Y) (Jg (n+0) a.Play (by assumption)) Y Y) (fO (OF.pickT (VEv.tmpB Y (dy fhg6_1)) (tv (tB (decide (QJ a.Play))) Y)) (aO (tB (decide (QJ a.Play))) Y (nt (rt (vb (b':=(decide (QJ a.Play))) Y ?_)))))
  (refine Yv ⟨fun h=>⟨?_,h⟩,fun h=>h.2⟩;assumption)
 refine QN 3 3 true 6 (dz fhg6_1) Y Y Y (fO (OF.pickF (VEv.tmpB Y (dz fhg6_1)) (VEv.bool false)) (aO (tB false) Y (nt (rt (vb (b':=false) Y ?_)))))
 (symm;rw [decide_eq_false_iff_not];rintro ⟨h1,h2⟩;contradiction)
noncomputable section
def QeR (s:ByteArray):Nat→ByteArray
 | 0=>⟨#[]⟩
 | i+1=>s.extract i (i+1)++QeR s i
def back (s:ByteArray):ByteArray:=if s.size≤100 then QeR s s.size else ⟨#[]⟩
end
theorem Qcm (n:Nat) (l:List Int) (v:Int) (hl:l.length≤QY):Pure (Qo Tryd.prog (n+1)) 112 [(rd 1 Qe l),(tI v)] (tB (decide (v∈l))):=by
 refine Pure.intro (rs:= [ResultVar.tmp 4]) Tryd.func112 Y Y Y (E0:= [(0,(rd 1 Qe l)),(1,(tI v))]) Y ?_
 obtain ⟨hlim,hmx,hmax⟩:=QM
 refine sr (fO (OF.assign (VEv.bool false)) (nt (sq (sr (fO (OF.assign (VEv.int .i64 0)) (nt (VRun.block ?_)))))))
 refine VRun.loop (A:=Nat) (fun s_=> [(0,(rd 1 Qe l)),(1,(tI v)),(5,(tN s_))]) (fun s_=>Yc []) 0 (fun s_=>NoneTo (fun y=>y=v) l s_) (fun s_=>l.length - s_) (0:Nat) ?_ (Wk.mk (fun k=>k) ?_ ?_ ?_) ?_
 ·exact NoneTo.start _ _
 ·exact (b2 (b2 (b2 bn)))
 ·exact bn
 ·exact nd Y
 rintro i (hI':NoneTo (fun y=>y=v) l i)
 show VRun _ _ _ [(0,(rd 1 Qe l)),(1,(tI v)),(5,(tN i))] (Yc []) 0 _
 have hI1:=hI'.1
 refine sq (sr (mO (tN i) Y (mO (rd 1 Qe l) Y (lO (B.lenR (m:=l.length) (tv (rd 1 Qe l) Y) YJ (List.length_map ..)) (fO (YA (tv (tN i) Y) (tv (tN l.length) Y)) (nt ?_))))))
 refine cd (i<l.length) Y (fun fhc0=> ?_) fun fhc0=> ?_
 ·refine sk ?_
  refine tn (sq (VRun.block (sr (mO (rd 1 Qe l) Y (mO (tN i) Y ?_)))))
  obtain ⟨x1,hx1⟩:∃x,l[i]? =some x:=⟨_,List.getElem?_eq_getElem (by omega)⟩
  refine fO (OF.indexAddrR (row:=(Qe false x1)) (i:=i) (tv (rd 1 Qe l) Y) (tv (tN i) Y) Y (Qr _ hx1) YJ Z9 if3) (lO (OL.loadR1 (t:=(tI x1)) (tv (T.rp [(tI x1)]) Y) Y Q4) (mO (tI v) Y (fO (Jb (tv (tI x1) Y) (tv (tI v) Y)) (nt ?_))))
  refine cd (x1=v) Y (fun fhc1=> ?_) fun fhc1=> ?_
  ·refine sr ?_
   refine fO (OF.assign (VEv.bool true)) (nt (rt (vinB.r (tr (tr (vinB.r (tr (vb (b':=true) Y ?_))))))))
   symm;rw [decide_eq_true_eq,← fhc1];exact List.mem_of_getElem? hx1
  refine sk (vinB.n (tn (VRun.region (mO (tN i) Y (fO (Zk (tv (tN i) Y) (VEv.int .i64 1) (by omega)) (aO (tN (i+1)) Y (VRunO.nil (tn ?_))))))))
  refine ⟨(i+1:Nat),?_,?_,Wk.mk (fun k=>k) ?_ ?_ ?_⟩
  ·exact hI'.next hx1 fhc1
  ·omega
  ·exact (b2 (b2 (b2 bn)))
  ·exact bn
  ·exact nd Y
 refine VRun.exit (vthn.e (vthn.e (vinB.e (tn (sr (fO (OF.assign (VEv.bool false)) (nt (rt (vb (b':=false) Y ?_)))))))))
 symm;rw [decide_eq_false_iff_not];intro h;exact hI'.mem fhc0 v h Y
noncomputable section
def on (s:List Bool) (j:Nat):Bool:=s[j]?.getD false
def wG (g:D.Grid):Nat:=g.Cols.toNat
def adj (g:D.Grid) (i j:Nat):Prop:=(j=i+1∧i % wG g+1<wG g)∨(i=j+1∧j % wG g+1<wG g)∨j=i+wG g∨i=j+wG g
inductive Rch (g:D.Grid) (s:List Bool):Nat→Prop
 | base {j:Nat} (h:on s j=true):Rch g s j
 | step {i j:Nat} (h:Rch g s i) (ha:adj g i j) (hj:j<s.length) (hw:Jx g.Cells j=46):Rch g s j
instance (g:D.Grid) (s:List Bool) (j:Nat):Decidable (Rch g s j):=Classical.propDecidable _
def QfQ (g:D.Grid) (s:List Bool):List Bool:=(List.range s.length).map fun j=>decide (Rch g s j)
end
noncomputable section
def fresh (g:D.Grid) (i:Nat):List Bool:=QfQ g ((List.replicate g.Cells.size false).set i true)
end
noncomputable section
def QaR : Nat→Int→ByteArray→ByteArray
 | 0,_,acc=>acc
 | f+1,k,acc=>if 0<k then QaR f (k.tdiv 10) (ZO [IntKind.u8.wrap (48+k.tmod 10)]++acc) else acc
def ZP (k:Int):ByteArray:=if k≤0 then ⟨#[109,48]⟩ else ⟨#[109]⟩++QaR k.toNat k ⟨#[]⟩
theorem QdW {f:Nat} {k:Int} {acc:ByteArray} (hk:0<k) (hf:k.toNat≤f):0≤k.tdiv 10∧(k.tdiv 10).toNat≤f - 1∧QaR f k acc=QaR (f - 1) (k.tdiv 10) (ZO [IntKind.u8.wrap (48+k.tmod 10)]++acc):=by
 have h1:k.tdiv 10=k / 10:=Int.tdiv_eq_ediv_of_nonneg (by omega)
 cases f with
 | zero=>omega
 | succ f =>
  refine ⟨by omega,by omega,?_⟩
  simp only [QaR,if_pos hk]
  rfl
theorem QeO {f:Nat} {k:Int} {acc:ByteArray} (hk:¬ 0<k):QaR f k acc=acc:=by
 cases f with
 | zero=>rfl
 | succ f=>simp only [QaR,if_neg hk]
theorem QeN (n:Int):(ZO [n]).size=1:=rfl
theorem QfD {k:Int} (h:0<k):0≤k.tmod 10∧k.tmod 10<10∧0≤k.tdiv 10∧k.tdiv 10≤k:=by
 rw [Int.tmod_eq_emod_of_nonneg (by omega),Int.tdiv_eq_ediv_of_nonneg (by omega)]
 omega
end
theorem ZL (n:Nat) (q:Int) (hq:q≤QY):Pure (Qo Tryd.prog (n+1)) 48 [(tI q)] (tS (ZP q)):=by
 refine Pure.intro (rs:= [ResultVar.tmp 2]) Tryd.func48 Y Y Y (E0:= [(0,(tI q))]) Y ?_
 obtain ⟨hlim,hmx,hmax⟩:=QM
 refine sr (fO (OF.assign (VEv.str (⟨#[]⟩:ByteArray))) (nt (sq (sr (mO (tI q) Y (fO (xle (tv (tI q) Y) (VEv.int .i64 0)) (nt ?_)))))))
 refine cd (q≤0) Y (fun fhc0=> ?_) fun fhc0=> ?_
 ·refine sr ?_
  refine fO (OF.assign (VEv.str (⟨#[109,48]⟩:ByteArray))) (nt (rt (tr ?_)))
  refine vfin.eq (r':=(tS (⟨#[109,48]⟩:ByteArray))) ?_ (vfin.r (VRes.tmp (t:=(tS (⟨#[109,48]⟩:ByteArray))) Y VRes.nil) (Give.str _))
  refine congrArg T.str ?_
  exact (if_pos fhc0).symm
 refine sk (tn (sr (fO (OF.assign (VEv.str (⟨#[]⟩:ByteArray))) (nt (sq (VRun.block ?_))))))
 refine VRun.loop (A:=Int×Nat×ByteArray) (fun s_=> [(0,(tI s_.1)),(2,(tS (⟨#[]⟩:ByteArray))),(3,(tS s_.2.2))]) (fun s_=>Yc []) 0 (fun s_=>0≤s_.1∧s_.1.toNat≤s_.2.1∧s_.2.2.size+s_.2.1≤q.toNat∧QaR q.toNat q ⟨#[]⟩=QaR s_.2.1 s_.1 s_.2.2) (fun s_=>s_.2.1) ((q,q.toNat,⟨#[]⟩):Int×Nat×ByteArray) ?_ (Wk.mk (fun k=>k) ?_ ?_ ?_) ?_
 ·exact ⟨by omega,Nat.le_refl _,by show 0+q.toNat≤q.toNat;omega,rfl⟩
 ·exact (b2 (b2 (bc ⟨(congrArg T.str (show (⟨#[]⟩:ByteArray)=⟨#[]⟩ from (by rfl))),rfl⟩ bn)))
 ·exact bn
 ·exact nd Y
 rintro ⟨k,f,acc⟩ (hI':0≤k∧k.toNat≤f∧acc.size+f≤q.toNat∧QaR q.toNat q ⟨#[]⟩=QaR f k acc)
 show VRun _ _ _ [(0,(tI k)),(2,(tS (⟨#[]⟩:ByteArray))),(3,(tS acc))] (Yc []) 0 _
 have hI1:=hI'.1
 have hI2:=hI'.2.1
 have hI3:=hI'.2.2.1
 have hI4:=hI'.2.2.2
 refine sq (sr (mO (tI k) Y (fO (xgt (tv (tI k) Y) (VEv.int .i64 0)) (nt ?_))))
 refine cd (0<k) Y (fun fhc1=> ?_) fun fhc1=> ?_
 ·obtain ⟨m1,m2,m3,m4⟩:=QfD fhc1
  refine sk (tn (VRun.block (sr (mO (tI k) Y (fO (B.rem (n:=(k.tmod 10)) (tv (tI k) Y) (VEv.int .i64 10) (by omega) (by rfl)) (fO (B.add (n:=(48+(k.tmod 10))) (VEv.int .i64 48) (tv (tI (k.tmod 10)) Y) (by (rw [Qq (by omega)];done))) (fO (OF.convI (tv (tI (48+(k.tmod 10))) Y) (k0:= .i64) U3 U5) (kO (OM.buildSlice (l:= [(T.int .u8 (IntKind.u8.wrap (48+(k.tmod 10))))]) (VEvp.cons (tv (T.int .u8 (IntKind.u8.wrap (48+(k.tmod 10)))) Y) VEvp.nil) Y (by decide) (bc (nofun) bn) (bc ((bc (Y) bn)) bn) (bc (Y) bn) U88 zo5 (by kernel_rfl) Y (by rw [sz5];decide) sz5 (Nat.le_of_ble_eq_true Y)) (lO (B.convBS (l:= [IntKind.u8.wrap (48+(k.tmod 10))]) (tv (T.os 1 0 0 1) Y) Y Y U88 U5 U9) (mO (tS acc) Y (fO (B.sadd (tv (tS (ZO [IntKind.u8.wrap (48+(k.tmod 10))])) Y) (tv (tS acc) Y) (by (simp only [QeN];omega))) ?_)))))))))))
  refine aO (tS ((ZO [IntKind.u8.wrap (48+(k.tmod 10))])++acc)) Y (nt (VRun.region (mO (tI k) Y (fO (B.quo (n:=(k.tdiv 10)) (tv (tI k) Y) (VEv.int .i64 10) (by omega) (by (rw [Qq (by omega)];done))) (aO (tI (k.tdiv 10)) Y (VRunO.nil (vinB.n (tn ?_))))))))
  obtain ⟨n1,n2,n3⟩:=QdW (acc:=acc) fhc1 hI2
  refine ⟨((k.tdiv 10,f - 1,ZO [IntKind.u8.wrap (48+k.tmod 10)]++acc):Int×Nat×ByteArray),?_,?_,Wk.mk (fun k=>k) ?_ ?_ ?_⟩
  ·exact ⟨n1,n2,by show (ZO _++acc).size+(f - 1)≤q.toNat;rw [ByteArray.size_append,QeN];omega,hI4.trans n3⟩
  ·(simp only [];omega)
  ·exact (b2 (b2 (bc ⟨(congrArg T.str (show ((ZO [IntKind.u8.wrap (48+(k.tmod 10))])++acc)=(ZO [IntKind.u8.wrap (48+k.tmod 10)]++acc) from (by rfl))),rfl⟩ bn)))
  ·exact bn
  ·exact nd Y
 refine VRun.exit (vthn.e (vthn.e (vinB.e (tn (sr (mO (tS acc) Y (fO (B.sadd (VEv.str (⟨#[109]⟩:ByteArray)) (tv (tS acc) Y) (by (rw [show (⟨#[109]⟩:ByteArray).size=1 from rfl];omega))) (aO (tS ((⟨#[109]⟩:ByteArray)++acc)) Y (nt (rt ?_))))))))))
 refine vfin.eq (r':=(tS ((⟨#[109]⟩:ByteArray)++acc))) ?_ (vfin.r (VRes.tmp (t:=(tS ((⟨#[109]⟩:ByteArray)++acc))) Y VRes.nil) (Give.str _))
 refine congrArg T.str ?_
 unfold ZP
 rw [if_neg fhc0,hI4,QeO fhc1]
noncomputable section
def Qn (k:Nat):ByteArray:=ZP ((k:Nat):Int)
end
theorem ZY (n:Nat) (a:List ByteArray) (k:Nat) (hk:k+1*a.length≤QY):Mut (Qo Tryd.prog (n+2)) 22 1 (a.map (Qd true)) [(tN k)] (some ((k+1*a.length:Nat):Int)) ((YF Qn 1 k a.length).map (Qd true)):=by
 refine Mut.intro (rt:=4) Tryd.func22 Y Y Y (by kernel_rfl) (YP (fun _=>rfl) _) (YP (fun _=>rfl) _) (E0:= [(1,(tN k))]) Y ?_
 obtain ⟨hlim,hmx,hmax⟩:=QM
 refine sr (fO (OF.assign (VEv.int .i64 0)) (nt (sq (sr (fO (OF.assign (VEv.int .i64 0)) (nt (VRun.block ?_)))))))
 have he1:a=Zz Qn 1 k a 0:=by first | rfl | (refine Jz ?_;omega) | (simp only [List.set_set];refine Jz ?_;omega) | (simp;done) | omega
 refine VRun.loop (A:=Nat) (fun s_=> [(0,(T.os 1 0 0 (((Zz Qn 1 k a s_).map (Qd true)).length))),(1,(tN (k+1*s_))),(4,(tN 0)),(5,(tN s_))]) (fun s_=>Yc [(0,(Obj.rows 1 ((Zz Qn 1 k a s_).map (Qd true))))]) 1 (fun s_=>s_≤a.length) (fun s_=>a.length - s_) (0:Nat) ?_ (Wk.mk (fun k=>k) ?_ ?_ ?_) ?_
 ·first | trivial | (simp;done) | omega | (constructor<;>simp)
 ·exact (bc ⟨(congrArg (fun l_=>T.os 1 0 0 (List.map (Qd true) l_).length) he1),rfl⟩ (bc ⟨(congrArg (T.int .i64) (show ((k:Nat):Int)=((k+1*0:Nat):Int) from (by first | rfl | omega | (simp;done) | (push_cast;omega)))),rfl⟩ (b2 (b2 bn))))
 ·exact (bc ⟨(congrArg (fun l_=>some (Obj.rows 1 (List.map (Qd true) l_))) he1),(lb Y),rfl⟩ bn)
 ·exact nd Y
 rintro i (hI':i≤a.length)
 show VRun _ _ _ [(0,(T.os 1 0 0 (((Zz Qn 1 k a i).map (Qd true)).length))),(1,(tN (k+1*i))),(4,(tN 0)),(5,(tN i))] (Yc [(0,(Obj.rows 1 ((Zz Qn 1 k a i).map (Qd true))))]) 1 _
 have hml:=Y9 (f:=Qn) (w:=1) (k:=k) hI'
 refine sq (sr (mO (tN i) Y (mO (T.os 1 0 0 (((Zz Qn 1 k a i).map (Qd true)).length)) Y (lO (B.lenO (m:=(Zz Qn 1 k a i).length) (tv (T.os 1 0 0 (((Zz Qn 1 k a i).map (Qd true)).length)) Y) Y5 (List.length_map ..)) (fO (YA (tv (tN i) Y) (tv (tN ((Zz Qn 1 k a i).length)) Y)) (nt ?_))))))
 refine cd (i<(Zz Qn 1 k a i).length) Y (fun fhc0=> ?_) fun fhc0=> ?_
 ·refine sk ?_
  refine tn (sq (VRun.block (sr (mO (T.os 1 0 0 (((Zz Qn 1 k a i).map (Qd true)).length)) Y (mO (tN i) Y (mO (tN (k+1*i)) Y (cO (cS (vc (tv (tN (k+1*i)) Y) vn) (Zj Y) (ZL (n+0) ((k+1*i:Nat):Int) (by first | omega | (simp only [List.length_set];omega) | assumption | omega)) Y Y) ?_)))))))
  obtain ⟨x1,hx1⟩:∃x,(Zz Qn 1 k a i)[i]? =some x:=⟨_,List.getElem?_eq_getElem (by first | omega | (simp only [List.length_set];omega) | omega)⟩
  refine fO (B.indexAddrO (i:=i) (tv (T.os 1 0 0 (((Zz Qn 1 k a i).map (Qd true)).length)) Y) (tv (tN i) Y) Y (by first | omega | (simp only [List.length_set];omega) | omega | (simp only [List.length_map];omega) | (simp only [List.length_map,List.length_append,List.length_cons,List.length_nil,List.length_replicate,List.length_set,List.length_drop,List.length_take,QY] at *;omega)) Y5 Ji if9) (cO (B.storeP (us:= [(tS (ZP ((k+1*i:Nat):Int)))]) (rows':=(((Zz Qn 1 k a i).set i (ZP ((k+1*i:Nat):Int))).map (Qd true))) (row:=(Qd true x1)) (tv (T.orp 1 0 i 0) Y) (tv (tS (ZP ((k+1*i:Nat):Int))) Y) nofun Y (Qr _ hx1) Y (lb Y) if9 Ji (bc Y bn) (by intro r hr t ht;obtain ⟨x,_,rfl⟩:=List.mem_map.1 hr;rw [Qfq] at ht;exact Q0 (okStr.pl _ t ht)) (Zi Y)) (nt (VRun.region (mO (tN (k+1*i)) Y (fO (Zk (tv (tN (k+1*i)) Y) (VEv.int .i64 1) (by first | omega | (simp only [List.length_set];omega) | omega)) (aO (tN (k+1*i+1)) Y (VRunO.nil (vinB.n (tn (VRun.region (mO (tN i) Y ?_)))))))))))
  refine fO (Zk (tv (tN i) Y) (VEv.int .i64 1) (by first | omega | (simp only [List.length_set];omega) | omega)) (aO (tN (i+1)) Y (VRunO.nil (tn ?_)))
  have hi1:i+1≤a.length:=by omega
  have he2:((Zz Qn 1 k a i).set i (ZP ((k+1*i:Nat):Int)))=Zz Qn 1 k a (i+1):=by first | rfl | (refine Jz ?_;omega) | (simp only [List.set_set];refine Jz ?_;omega) | (simp;done) | omega
  refine ⟨(i+1:Nat),?_,?_,Wk.mk (fun k=>k) ?_ ?_ ?_⟩
  ·first | trivial | omega | (simp;done) | exact ⟨by omega,hI'.2⟩
  ·first | omega | (simp only [];omega) | (show _<_;omega) | (simp;omega)
  ·exact (bc ⟨(congrArg (fun n_=>T.os 1 0 0 n_) (show ((Zz Qn 1 k a i).map (Qd true)).length=((Zz Qn 1 k a (i+1)).map (Qd true)).length from (by first | rfl | (rw [List.length_map,List.length_map,Y9 hI',Y9 hi1]) | (simp only [List.length_map];omega) | (simp only [List.length_map,List.length_set,List.length_append,List.length_take,List.length_replicate,List.length_cons,List.length_nil];omega)))),rfl⟩ (bc ⟨(congrArg (T.int .i64) (show (((k+1*i+1):Nat):Int)=((k+1*(i+1):Nat):Int) from (by first | rfl | omega | (simp;done) | (push_cast;omega)))),rfl⟩ (b2 (b2 bn))))
  ·exact (bc ⟨(congrArg (fun l_=>some (Obj.rows 1 (List.map (Qd true) l_))) he2),(lb Y),rfl⟩ bn)
  ·exact nd Y
 refine VRun.exit (vthn.e (vthn.e (vinB.e (tn (sr (mO (tN (k+1*i)) Y (aO (tN (k+1*i)) Y (nt (rt ?_)))))))))
 refine vmut.r (r0:=((k+1*i:Nat):Int)) (rows:=((Zz Qn 1 k a i).map (Qd true))) Y Y Y ?_ ?_ Y
 ·first | rfl | (push_cast;omega) | (have:i=a.length:=(by omega);subst this;rfl)
 ·show List.map _ (Zz Qn 1 k a i)=List.map _ (YF Qn 1 k a.length)
  refine congrArg (List.map _) ?_
  exact QdK hI' (by omega)
theorem Z5 (n:Nat) (a:List ByteArray) (k:Nat) (hh:a=YF Qn 1 k a.length) (hk:k+1*a.length≤QY):Pure (Qo Tryd.prog (n+2)) 23 [(rd 1 Qd a),(tN k)] (tN (k+1*a.length)):=by
 refine Pure.intro (rs:= [ResultVar.tmp 4]) Tryd.func23 Y Y Y (E0:= [(0,(rd 1 Qd a)),(1,(tN k))]) Y ?_
 obtain ⟨hlim,hmx,hmax⟩:=QM
 refine sr (fO (OF.assign (VEv.int .i64 0)) (nt (sq (sr (fO (OF.assign (VEv.int .i64 0)) (nt (VRun.block ?_)))))))
 refine VRun.loop (A:=Nat) (fun s_=> [(0,(rd 1 Qd a)),(1,(tN (k+1*s_))),(5,(tN s_))]) (fun s_=>Yc []) 0 (fun s_=>s_≤a.length) (fun s_=>a.length - s_) (0:Nat) ?_ (Wk.mk (fun k=>k) ?_ ?_ ?_) ?_
 ·first | trivial | (simp;done) | omega | (constructor<;>simp)
 ·exact (b2 (bc ⟨(congrArg (T.int .i64) (show ((k:Nat):Int)=((k+1*0:Nat):Int) from (by first | rfl | omega | (simp;done) | (push_cast;omega)))),rfl⟩ (b2 bn)))
 ·exact bn
 ·exact nd Y
 rintro i (hI':i≤a.length)
 show VRun _ _ _ [(0,(rd 1 Qd a)),(1,(tN (k+1*i))),(5,(tN i))] (Yc []) 0 _
 refine sq (sr (mO (tN i) Y (mO (rd 1 Qd a) Y (lO (B.lenR (m:=a.length) (tv (rd 1 Qd a) Y) Y5 (List.length_map ..)) (fO (YA (tv (tN i) Y) (tv (tN a.length) Y)) (nt ?_))))))
 refine cd (i<a.length) Y (fun fhc0=> ?_) fun fhc0=> ?_
 ·refine sk ?_
  refine tn (sq (VRun.block (sq (sq (VRun.draw (B:= [[],[],[1,0],[0,1,2],[],[4],[4,5,2,1,0,3]]) (by kernel_rfl) (by kernel_rfl) (mD (rd 1 Qd a) Y Y (mD (tN i) Y Y ?_)))))))
  obtain ⟨x1,hx1⟩:∃x,a[i]? =some x:=⟨_,List.getElem?_eq_getElem (by omega)⟩
  refine fD (OF.indexAddrR (row:=(Qd false x1)) (i:=i) (tv (rd 1 Qd a) Y) (tv (tN i) Y) Y (Qr _ hx1) Y5 Ji if9) Y Y (lD (OL.loadR1 (t:=(tS x1)) (tv (T.rp [(tS x1)]) Y) Y st9) Y Y (mD (tN (k+1*i)) Y Y (VRunD.quiet (bi:= [4]) Y VWant.always Y Y Y bn (cS (vc (tv (tN (k+1*i)) Y) vn) (Zj Y) (ZL (n+0) ((k+1*i:Nat):Int) (by first | assumption | omega)) Y Y) (fD (B.sneq (c:=(!(decide (x1=ZP ((k+1*i:Nat):Int))))) (tv (tS x1) Y) (tv (tS (ZP ((k+1*i:Nat):Int))) Y) Y) Y Y (VRunD.nil (tn ?_))))))
  refine cn (x1=ZP ((k+1*i:Nat):Int)) Y (fun fhc1=> ?_) fun fhc1=> ?_
  ·exact absurd (QfO hh hx1) fhc1
  refine sk (tn (VRun.region (mO (tN (k+1*i)) Y (fO (Zk (tv (tN (k+1*i)) Y) (VEv.int .i64 1) (by omega)) (aO (tN (k+1*i+1)) Y (VRunO.nil (vinB.n (tn (VRun.region (mO (tN i) Y (fO (Zk (tv (tN i) Y) (VEv.int .i64 1) (by omega)) ?_)))))))))))
  refine aO (tN (i+1)) Y (VRunO.nil (tn ?_))
  refine ⟨(i+1:Nat),?_,?_,Wk.mk (fun k=>k) ?_ ?_ ?_⟩
  ·first | trivial | omega | (simp;done) | exact ⟨by omega,hI'.2⟩
  ·first | omega | (simp only [];omega) | (show _<_;omega) | (simp;omega)
  ·exact (b2 (bc ⟨(congrArg (T.int .i64) (show (((k+1*i+1):Nat):Int)=((k+1*(i+1):Nat):Int) from (by first | rfl | omega | (simp;done) | (push_cast;omega)))),rfl⟩ (b2 bn)))
  ·exact bn
  ·exact nd Y
 refine VRun.exit (vthn.e (vthn.e (vinB.e (tn (sr (mO (tN (k+1*i)) Y (aO (tN (k+1*i)) Y (nt (rt (vi (n':=((k+1*i:Nat):Int)) Y ?_))))))))))
 omega
noncomputable section
def QH (k:Nat):D.Step:=(D.Step.mk ((k:Nat):Int) (ZP ((k+1:Nat):Int)) ((k+2:Nat):Int) ((k+3:Nat):Int))
end
theorem JW (n:Nat) (a:List D.Step) (k:Nat) (hk:k+4*a.length≤QY):Mut (Qo Tryd.prog (n+2)) 47 4 (a.map (Qa true)) [(tN k)] (some ((k+4*a.length:Nat):Int)) ((YF QH 4 k a.length).map (Qa true)):=by
 refine Mut.intro (rt:=4) Tryd.func47 Y Y Y (by kernel_rfl) (YP (fun _=>rfl) _) (YP (fun _=>rfl) _) (E0:= [(1,(tN k))]) Y ?_
 obtain ⟨hlim,hmx,hmax⟩:=QM
 refine sr (fO (OF.assign (VEv.int .i64 0)) (nt (sq (sr (fO (OF.assign (VEv.int .i64 0)) (nt (VRun.block ?_)))))))
 have he1:a=Zz QH 4 k a 0:=by rfl
 refine VRun.loop (A:=Nat) (fun s_=> [(0,(T.os 4 0 0 (((Zz QH 4 k a s_).map (Qa true)).length))),(1,(tN (k+4*s_))),(4,(tN 0)),(5,(tN s_))]) (fun s_=>Yc [(0,(Obj.rows 4 ((Zz QH 4 k a s_).map (Qa true))))]) 1 (fun s_=>s_≤a.length) (fun s_=>a.length - s_) (0:Nat) ?_ (Wk.mk (fun k=>k) ?_ ?_ ?_) ?_
 ·(simp;done)
 ·exact (bc ⟨(congrArg (fun l_=>T.os 4 0 0 (List.map (Qa true) l_).length) he1),rfl⟩ (bc ⟨(congrArg (T.int .i64) (show ((k:Nat):Int)=((k+4*0:Nat):Int) from (by rfl))),rfl⟩ (b2 (b2 bn))))
 ·exact (bc ⟨(congrArg (fun l_=>some (Obj.rows 4 (List.map (Qa true) l_))) he1),(lb Y),rfl⟩ bn)
 ·exact nd Y
 rintro i (hI':i≤a.length)
 show VRun _ _ _ [(0,(T.os 4 0 0 (((Zz QH 4 k a i).map (Qa true)).length))),(1,(tN (k+4*i))),(4,(tN 0)),(5,(tN i))] (Yc [(0,(Obj.rows 4 ((Zz QH 4 k a i).map (Qa true))))]) 1 _
 have hml:=Y9 (f:=QH) (w:=4) (k:=k) hI'
 refine sq (sr (mO (tN i) Y (mO (T.os 4 0 0 (((Zz QH 4 k a i).map (Qa true)).length)) Y (lO (B.lenO (m:=(Zz QH 4 k a i).length) (tv (T.os 4 0 0 (((Zz QH 4 k a i).map (Qa true)).length)) Y) YR (List.length_map ..)) (fO (YA (tv (tN i) Y) (tv (tN ((Zz QH 4 k a i).length)) Y)) (nt ?_))))))
 refine cd (i<(Zz QH 4 k a i).length) Y (fun fhc0=> ?_) fun fhc0=> ?_
 ·refine sk ?_
  refine tn (sq (VRun.block (sr (mO (T.os 4 0 0 (((Zz QH 4 k a i).map (Qa true)).length)) Y (mO (tN i) Y (mO (tN (k+4*i)) Y ?_))))))
  obtain ⟨x1,hx1⟩:∃x,(Zz QH 4 k a i)[i]? =some x:=⟨_,List.getElem?_eq_getElem (by omega)⟩
  refine fO (B.indexAddrO (i:=i) (tv (T.os 4 0 0 (((Zz QH 4 k a i).map (Qa true)).length)) Y) (tv (tN i) Y) Y (by (simp only [List.length_map];omega)) YR Zf ZR) (fO (OF.fieldAddrP (tv (T.orp 4 0 i 0) Y) Qy) (cO (B.storeP (us:= [(tN (k+4*i))]) (rows':=(((Zz QH 4 k a i).set i (D.Step.mk ((k+4*i:Nat):Int) x1.Word x1.A x1.B)).map (Qa true))) (row:=(Qa true x1)) (tv (T.orp 4 0 i 0) Y) (tv (tN (k+4*i)) Y) nofun Y (Qr _ hx1) Y (lb Y) if3 Z9 (bc Y bn) (by intro r hr t ht;obtain ⟨x,_,rfl⟩:=List.mem_map.1 hr;rw [Qbg] at ht;exact Q0 (okeStep.pl _ t ht)) (Zi Y)) (nt (sr (mO (tN (k+4*i)) Y (fO (Zk (tv (tN (k+4*i)) Y) (VEv.int .i64 1) (by omega)) (aO (tN (k+4*i+1)) Y (nt (sr (mO (T.os 4 0 0 (((Zz QH 4 k a i).map (Qa true)).length)) Y (mO (tN i) Y ?_)))))))))))
  refine mO (tN (k+4*i+1)) Y (cO (cS (vc (tv (tN (k+4*i+1)) Y) vn) (Zj Y) (ZL (n+0) (((k+4*i+1):Nat):Int) (by omega)) Y Y) (fO (B.indexAddrO (i:=i) (tv (T.os 4 0 0 (((Zz QH 4 k a i).map (Qa true)).length)) Y) (tv (tN i) Y) Y (by (simp only [List.length_map];omega)) YR Zf ZR) (fO (OF.fieldAddrP (tv (T.orp 4 0 i 0) Y) Y1) (cO (B.storeP (us:= [(tS (ZP (((k+4*i+1):Nat):Int)))]) (rows':=((((Zz QH 4 k a i).set i (D.Step.mk ((k+4*i:Nat):Int) x1.Word x1.A x1.B)).set i (D.Step.mk ((k+4*i:Nat):Int) (ZP (((k+4*i+1):Nat):Int)) x1.A x1.B)).map (Qa true))) (row:=(Qa true (D.Step.mk ((k+4*i:Nat):Int) x1.Word x1.A x1.B))) (tv (T.orp 4 0 i 1) Y) (tv (tS (ZP (((k+4*i+1):Nat):Int))) Y) nofun Y (Qr _ (Qc9 (by omega))) Y (lb Y) if9 Ji (bc Y bn) (by intro r hr t ht;obtain ⟨x,_,rfl⟩:=List.mem_map.1 hr;rw [Qbg] at ht;exact Q0 (okeStep.pl _ t ht)) (Zi Y)) (nt (sr (mO (tN (k+4*i+1)) Y (fO (Zk (tv (tN (k+4*i+1)) Y) (VEv.int .i64 1) (by omega)) (aO (tN ((k+4*i+1)+1)) Y (nt (sr ?_)))))))))))
  refine mO (T.os 4 0 0 (((Zz QH 4 k a i).map (Qa true)).length)) Y (mO (tN i) Y (mO (tN ((k+4*i+1)+1)) Y (fO (B.indexAddrO (i:=i) (tv (T.os 4 0 0 (((Zz QH 4 k a i).map (Qa true)).length)) Y) (tv (tN i) Y) Y (by (simp only [List.length_map];omega)) YR Zf ZR) (fO (OF.fieldAddrP (tv (T.orp 4 0 i 0) Y) Zt) (cO (B.storeP (us:= [(tN ((k+4*i+1)+1))]) (rows':=(((((Zz QH 4 k a i).set i (D.Step.mk ((k+4*i:Nat):Int) x1.Word x1.A x1.B)).set i (D.Step.mk ((k+4*i:Nat):Int) (ZP (((k+4*i+1):Nat):Int)) x1.A x1.B)).set i (D.Step.mk ((k+4*i:Nat):Int) (ZP (((k+4*i+1):Nat):Int)) ((((k+4*i+1)+1):Nat):Int) x1.B)).map (Qa true))) (row:=(Qa true (D.Step.mk ((k+4*i:Nat):Int) (ZP (((k+4*i+1):Nat):Int)) x1.A x1.B))) (tv (T.orp 4 0 i 2) Y) (tv (tN ((k+4*i+1)+1)) Y) nofun Y (Qr _ (Qc9 (by (simp only [List.length_set];omega)))) Y (lb Y) if3 Z9 (bc Y bn) (by intro r hr t ht;obtain ⟨x,_,rfl⟩:=List.mem_map.1 hr;rw [Qbg] at ht;exact Q0 (okeStep.pl _ t ht)) (Zi Y)) (nt (sr (mO (tN ((k+4*i+1)+1)) Y (fO (Zk (tv (tN ((k+4*i+1)+1)) Y) (VEv.int .i64 1) (by omega)) (aO (tN (((k+4*i+1)+1)+1)) Y (nt ?_)))))))))))
  refine sr (mO (T.os 4 0 0 (((Zz QH 4 k a i).map (Qa true)).length)) Y (mO (tN i) Y (mO (tN (((k+4*i+1)+1)+1)) Y (fO (B.indexAddrO (i:=i) (tv (T.os 4 0 0 (((Zz QH 4 k a i).map (Qa true)).length)) Y) (tv (tN i) Y) Y (by (simp only [List.length_map];omega)) YR Zf ZR) (fO (OF.fieldAddrP (tv (T.orp 4 0 i 0) Y) Ze) (cO (B.storeP (us:= [(tN (((k+4*i+1)+1)+1))]) (rows':=((((((Zz QH 4 k a i).set i (D.Step.mk ((k+4*i:Nat):Int) x1.Word x1.A x1.B)).set i (D.Step.mk ((k+4*i:Nat):Int) (ZP (((k+4*i+1):Nat):Int)) x1.A x1.B)).set i (D.Step.mk ((k+4*i:Nat):Int) (ZP (((k+4*i+1):Nat):Int)) ((((k+4*i+1)+1):Nat):Int) x1.B)).set i (D.Step.mk ((k+4*i:Nat):Int) (ZP (((k+4*i+1):Nat):Int)) ((((k+4*i+1)+1):Nat):Int) (((((k+4*i+1)+1)+1):Nat):Int))).map (Qa true))) (row:=(Qa true (D.Step.mk ((k+4*i:Nat):Int) (ZP (((k+4*i+1):Nat):Int)) ((((k+4*i+1)+1):Nat):Int) x1.B))) (tv (T.orp 4 0 i 3) Y) (tv (tN (((k+4*i+1)+1)+1)) Y) nofun Y (Qr _ (Qc9 (by (simp only [List.length_set];omega)))) Y (lb Y) if3 Z9 (bc Y bn) (by intro r hr t ht;obtain ⟨x,_,rfl⟩:=List.mem_map.1 hr;rw [Qbg] at ht;exact Q0 (okeStep.pl _ t ht)) (Zi Y)) (nt (VRun.region (mO (tN (((k+4*i+1)+1)+1)) Y (fO (Zk (tv (tN (((k+4*i+1)+1)+1)) Y) (VEv.int .i64 1) (by omega)) (aO (tN ((((k+4*i+1)+1)+1)+1)) Y ?_)))))))))))
  refine VRunO.nil (vinB.n (tn (VRun.region (mO (tN i) Y (fO (Zk (tv (tN i) Y) (VEv.int .i64 1) (by omega)) (aO (tN (i+1)) Y (VRunO.nil (tn ?_))))))))
  have hi1:i+1≤a.length:=by omega
  have he2:(((((Zz QH 4 k a i).set i (D.Step.mk ((k+4*i:Nat):Int) x1.Word x1.A x1.B)).set i (D.Step.mk ((k+4*i:Nat):Int) (ZP (((k+4*i+1):Nat):Int)) x1.A x1.B)).set i (D.Step.mk ((k+4*i:Nat):Int) (ZP (((k+4*i+1):Nat):Int)) ((((k+4*i+1)+1):Nat):Int) x1.B)).set i (D.Step.mk ((k+4*i:Nat):Int) (ZP (((k+4*i+1):Nat):Int)) ((((k+4*i+1)+1):Nat):Int) (((((k+4*i+1)+1)+1):Nat):Int)))=Zz QH 4 k a (i+1):=by (simp only [List.set_set];refine Jz ?_;omega)
  refine ⟨(i+1:Nat),?_,?_,Wk.mk (fun k=>k) ?_ ?_ ?_⟩
  ·trivial
  ·omega
  ·exact (bc ⟨(congrArg (fun n_=>T.os 4 0 0 n_) (show ((Zz QH 4 k a i).map (Qa true)).length=((Zz QH 4 k a (i+1)).map (Qa true)).length from (by rw [List.length_map,List.length_map,Y9 hI',Y9 hi1]))),rfl⟩ (bc ⟨(congrArg (T.int .i64) (show ((((((k+4*i+1)+1)+1)+1):Nat):Int)=((k+4*(i+1):Nat):Int) from (by rfl))),rfl⟩ (b2 (b2 bn))))
  ·exact (bc ⟨(congrArg (fun l_=>some (Obj.rows 4 (List.map (Qa true) l_))) he2),(lb Y),rfl⟩ bn)
  ·exact nd Y
 refine VRun.exit (vthn.e (vthn.e (vinB.e (tn (sr (mO (tN (k+4*i)) Y (aO (tN (k+4*i)) Y (nt (rt ?_)))))))))
 refine vmut.r (r0:=((k+4*i:Nat):Int)) (rows:=((Zz QH 4 k a i).map (Qa true))) Y Y Y ?_ ?_ Y
 ·(push_cast;omega)
 ·show List.map _ (Zz QH 4 k a i)=List.map _ (YF QH 4 k a.length)
  refine congrArg (List.map _) ?_
  exact QdK hI' (by omega)
theorem QaA (n:Nat) (a:D.Clue) (k:Nat) (hk:k+4*a.Play.length≤QY):LoanM (Qo Tryd.prog (n+3)) 21 [(4,(a.Play.map (Qa true)))] [(T.agg [(tI a.Sense),(T.os 4 0 0 ((a.Play.map (Qa true)).length))]),(tN k)] (tN (k+4*a.Play.length)) [(4,((YF QH 4 k a.Play.length).map (Qa true)))]:=by
 refine LoanM.intro (rs:= [ResultVar.tmp 4]) [(0,(T.agg [(tI a.Sense),(T.os 4 0 0 ((a.Play.map (Qa true)).length))]))] Tryd.func21 Y Y Y Y (bc ⟨by kernel_rfl,rfl⟩ bn) (PinsTo.at (And.intro trivial ⟨_,(.head _),(.agg 1 Y (.os _ _))⟩)) (.int _ _) (bc (okeStep.cleanMap _) bn) (E0:= [(0,(T.agg [(tI a.Sense),(T.os 4 0 0 ((a.Play.map (Qa true)).length))])),(1,(tN k))]) Y (fun asg=> ?_)
 obtain ⟨hlim,hmx,hmax⟩:=QM
 show VRun _ _ _ [(0,(T.agg [(tI a.Sense),(T.os 4 0 0 ((a.Play.map (Qa true)).length))])),(1,(tN k))] (Yc [(0,(Obj.rowsN 4 (a.Play.map (Qa true)) (asg 0)))]) 1 _
 refine sr (kO (B.box (ts:= [(tI a.Sense),(T.os 4 0 0 ((a.Play.map (Qa true)).length))]) (tv (T.agg [(tI a.Sense),(T.os 4 0 0 ((a.Play.map (Qa true)).length))]) Y) nofun Y) (fO (OF.assign (VEv.int .i64 0)) (nt (sr (lf (T.os 4 0 0 ((a.Play.map (Qa true)).length)) Y ZM Y Y Qa9 (mO (tN k) Y (cO (OC.viaN (k:=0) Y (YP (fun _=>rfl) _) (YP (fun _=>rfl) _) (OC.callMut (rows:=(a.Play.map (Qa true))) (rows':=((YF QH 4 k a.Play.length).map (Qa true))) Y (vc (tv (T.os 4 0 0 ((a.Play.map (Qa true)).length)) Y) (vc (tv (tN k) Y) vn)) Y Y (bc Y bn) (YP (fun _=>rfl) _) (YP (fun _=>rfl) _) (JW (n+0) a.Play k (by first | assumption | omega)))) (aO (tN (k+4*a.Play.length)) Y (nt (sr (mO (tN (k+4*a.Play.length)) Y ?_)))))))))))
 refine aO (tN (k+4*a.Play.length)) Y (nt (rt ?_))
 have hnew0:YF QH 4 k a.Play.length=YF QH 4 k a.Play.length:=by
  rfl
 exact vloanM.r (L1:= [(4,((YF QH 4 k a.Play.length).map (Qa true)))]) (fun k=>k) (VRes.tmp (t:=(tN (k+4*a.Play.length))) Y VRes.nil) Y (bc Y bn) (And.intro Y (trivial)) (by rw [hnew0])
noncomputable section
def QF : List Int→Int→List Int
 | [],n=> [n]
 | x::r,n=>if x<n then x::QF r n else if x=n then x::r else n::x::r
theorem l9put_mem {l:List Int} {n y:Int}:y∈QF l n↔y∈l∨y=n:=by
 induction l with
 | nil=>simp [QF]
 | cons x r ih =>
  simp only [QF]
  split
  ·simp only [List.mem_cons,ih,or_assoc]
  ·split
   ·rename_i h1 h2
    subst h2
    simp only [List.mem_cons]
    exact ⟨.inl,fun h=>h.elim id .inl⟩
   ·simp only [List.mem_cons]
    exact or_comm
theorem Qd3 {l:List Int} {n:Int}:(QF l n).length≤l.length+1:=by
 induction l with
 | nil=>simp [QF]
 | cons x r ih =>
  simp only [QF]
  split
  ·simp only [List.length_cons];omega
  ·split<;>simp
theorem J4 {l:List Int} {n:Int} (h:l.Pairwise (· < ·)):(QF l n).Pairwise (· < ·):=by
 induction l with
 | nil=>simp [QF]
 | cons x r ih =>
  have h1:=List.pairwise_cons.1 h
  simp only [QF]
  split
  ·rename_i hx
   refine List.pairwise_cons.2 ⟨fun y hy=> ?_,ih h1.2⟩
   rcases l9put_mem.1 hy with h2 | h2
   ·exact h1.1 y h2
   ·exact h2▸hx
  ·split
   ·exact h
   ·refine List.pairwise_cons.2 ⟨fun y hy=> ?_,h⟩
    rcases List.mem_cons.1 hy with h2 | h2
    ·omega
    ·have:=h1.1 y h2
     omega
theorem Qfp {n:Int}:∀ {l:List Int} {k:Nat},(∀j y,j<k→l[j]? =some y→y<n)→l[k]? =some n→l=QF l n
 | [],_,_,h=>by simp at h
 | x::r,0,_,h=>by
  obtain rfl:x=n:=by simpa using h
  simp [QF]
 | x::r,k+1,h1,h=>by
  have h2:=h1 0 x (by omega) (by simp)
  simp only [QF,if_pos h2]
  rw [← Qfp (k:=k) (fun j y hj hy=>h1 (j+1) y (by omega) (by simpa using hy)) (by simpa using h)]
theorem Qc5 {n:Int}:∀ {l:List Int} {k:Nat},(∀j y,j<k→l[j]? =some y→y<n)→k≤l.length→(∀y,l[k]? =some y→n<y)→(l.take k++ [n])++l.drop k=QF l n
 | [],k,_,h,_=>by
  obtain rfl:k=0:=by simpa using h
  rfl
 | x::r,0,_,_,h=>by
  have h2:=h x (by simp)
  simp only [QF]
  rw [if_neg (by omega),if_neg (by omega)]
  rfl
 | x::r,k+1,h1,h,h3=>by
  have h2:=h1 0 x (by omega) (by simp)
  simp only [QF,if_pos h2]
  rw [← Qc5 (k:=k) (fun j y hj hy=>h1 (j+1) y (by omega) (by simpa using hy)) (by simpa using h) (fun y hy=>h3 y (by simpa using hy))]
  rfl
theorem QcG {α:Type} {l:List α} {i:Nat} {x y:α} (hx:l[i]? =some x) (hy:l[i]? =some y):y=x:=by
 rw [hx] at hy
 exact (Option.some.inj hy).symm
end
theorem JL (n:Nat) (l:List Int) (v:Int) (hl:l.length≤mx):Pure (Qo Tryd.prog (n+1)) 113 [(rd 1 Qe l),(tI v)] (T.sl true 1 ((QF l v).map (Qe true))):=by
 refine Pure.intro (rs:= [ResultVar.tmp 4]) Tryd.func113 Y Y Y (E0:= [(0,(rd 1 Qe l)),(1,(tI v))]) Y ?_
 obtain ⟨hlim,hmx,hmax⟩:=QM
 refine sr (fO (OF.assign VEv.nils) (nt (sr (fO (OF.assign (VEv.int .i64 0)) (nt (sq (VRun.block ?_)))))))
 refine VRun.loop (A:=Nat) (fun s_=> [(0,(rd 1 Qe l)),(1,(tI v)),(4,T.nils),(5,(tN s_))]) (fun s_=>Yc []) 0 (fun s_=>s_≤l.length∧∀j y,j<s_→l[j]? =some y→y<v) (fun s_=>l.length - s_) (0:Nat) ?_ (Wk.mk (fun k=>k) ?_ ?_ ?_) ?_
 ·exact ⟨Nat.zero_le _,fun j y hj=>by omega⟩
 ·exact (b2 (b2 (b2 (b2 bn))))
 ·exact bn
 ·exact nd Y
 rintro k (hI':k≤l.length∧∀j y,j<k→l[j]? =some y→y<v)
 show VRun _ _ _ [(0,(rd 1 Qe l)),(1,(tI v)),(4,T.nils),(5,(tN k))] (Yc []) 0 _
 have hI1:=hI'.1
 refine sq (sr (mO (tN k) Y (mO (rd 1 Qe l) Y (lO (B.lenR (m:=l.length) (tv (rd 1 Qe l) Y) YJ (List.length_map ..)) (fO (YA (tv (tN k) Y) (tv (tN l.length) Y)) (mO (tB (decide (k<l.length))) Y ?_))))))
 refine gw (k<l.length) (fun fhg10_1=> ?_) fun fhg10_1=> ?_
 ·refine gF (dy fhg10_1) Y Y (OF.move (tv (rd 1 Qe l) Y)) ?_
  refine gF (dy fhg10_1) Y Y (OF.move (tv (tN k) Y)) ?_
  obtain ⟨x1,hx1⟩:∃x,l[k]? =some x:=⟨_,List.getElem?_eq_getElem (by omega)⟩
  refine gF (dy fhg10_1) Y Y (OF.indexAddrR (row:=(Qe false x1)) (i:=k) (tv (rd 1 Qe l) Y) (tv (tN k) Y) Y (Qr _ hx1) YJ Z9 if3) (gL (dy fhg10_1) Y Y (OL.loadR1 (t:=(tI x1)) (tv (T.rp [(tI x1)]) Y) Y Q4) (gF (dy fhg10_1) Y Y (OF.move (tv (tI v) Y)) (gF (dy fhg10_1) Y Y (xls (tv (tI x1) Y) (tv (tI v) Y)) (fO (OF.pickT (VEv.tmpB Y (dy fhg10_1)) (tv (tB (decide (x1<v))) Y)) (nt ?_)))))
  refine cd (x1<v) Y (fun fhc0=> ?_) fun fhc0=> ?_
  ·refine sk ?_
   refine tn (VRun.block (VRun.region (mO (tN k) Y (fO (Zk (tv (tN k) Y) (VEv.int .i64 1) (by omega)) (aO (tN (k+1)) Y (VRunO.nil (vinB.n (tn ?_))))))))
   refine ⟨(k+1:Nat),?_,?_,Wk.mk (fun k=>k) ?_ ?_ ?_⟩
   ·refine ⟨by omega,fun j y hj hy=> ?_⟩
    rcases Nat.lt_or_ge j k with h1 | h1
    ·exact hI'.2 j y h1 hy
    ·obtain rfl:j=k:=(by omega);obtain rfl:=QcG hx1 hy;assumption
   ·omega
   ·exact (b2 (b2 (b2 (b2 bn))))
   ·exact bn
   ·exact nd Y
  refine VRun.exit (vthn.e (vthn.e (vinB.e (tn (sq (sr (mO (tN k) Y (mO (rd 1 Qe l) Y (lO (B.lenR (m:=l.length) (tv (rd 1 Qe l) Y) YJ (List.length_map ..)) (fO (YA (tv (tN k) Y) (tv (tN l.length) Y)) (mO (tB (decide (k<l.length))) Y ?_)))))))))))
  refine gF (dy fhg10_1) Y Y (OF.move (tv (rd 1 Qe l) Y)) (gF (dy fhg10_1) Y Y (OF.move (tv (tN k) Y)) (gF (dy fhg10_1) Y Y (OF.indexAddrR (row:=(Qe false x1)) (i:=k) (tv (rd 1 Qe l) Y) (tv (tN k) Y) Y (Qr _ hx1) YJ Z9 if3) (gL (dy fhg10_1) Y Y (OL.loadR1 (t:=(tI x1)) (tv (T.rp [(tI x1)]) Y) Y Q4) (gF (dy fhg10_1) Y Y (OF.move (tv (tI v) Y)) (gF (dy fhg10_1) Y Y (Jb (tv (tI x1) Y) (tv (tI v) Y)) (fO (OF.pickT (VEv.tmpB Y (dy fhg10_1)) (tv (tB (decide (x1=v))) Y)) (nt ?_)))))))
  refine cd (x1=v) Y (fun fhc1=> ?_) fun fhc1=> ?_
  ·refine sr ?_
   refine kO (OM.slice0 YJ zo3 (by kernel_rfl) Y (by rw [Z9];decide) Z9) (mO (rd 1 Qe l) Y (cO (B.append (rows:= []) (rows2:=(l.map (Qe false))) (rows3:=(l.map (Qe true))) (VDst.own (tv (T.os 1 0 0 0) Y) Y Y) (VSrc.read (tv (rd 1 Qe l) Y) YJ (okInt.okMap _ _)) nofun YJ Z9 (by decide) zo3 Y (of_decide_eq_true (by kernel_rfl)) (by (simp only [List.length_map,List.length_append,List.length_cons,List.length_nil,List.length_replicate,List.length_set,List.length_drop,List.length_take,QY] at *;omega)) (List.nil_append _)) (aO (T.os 1 1 0 ((l.map (Qe true)).length)) Y (nt (rt (tr ?_))))))
   refine vfin.eq (r':=(T.sl true 1 (l.map (Qe true)))) ?_ (vfin.r (VRes.tmp (t:=(T.os 1 1 0 ((l.map (Qe true)).length))) Y VRes.nil) (Give.os Y Y (okInt.cleanMap _)))
   refine congrArg (fun l_=>T.sl true 1 (List.map (Qe true) l_)) ?_
   (refine Qfp hI'.2 ?_;simp_all;done)
  refine sk (tn (sq (VRun.draw (B:= [[],[],[],[2,1],[1,2,3,0],[],[5],[5,6,0,3,2,1,4],[],[],[9,8],[8,9,10,4,1,2,3,0,6,5,7],[7,5,6,0,3,2,1,4,10,9,8,11]]) (by kernel_rfl) (by kernel_rfl) (VRunD.make Y VWant.always Y (OM.slice0 YJ zo3 (by kernel_rfl) Y (by rw [Z9];decide) Z9) (mD (rd 1 Qe l) Y Y (mD (tN k) Y Y (lD (show OL _ _ _ _ _ (T.sl false 1 ((l.take k).map (Qe false))) by rw [List.map_take];exact (OL.sliceRHi (j:=k) (tv (rd 1 Qe l) Y) (tv (tN k) Y) Y (by (simp only [List.length_map];omega)) YJ Z9 if3)) Y Y (VRunD.quiet (bi:= [1,2,3,0]) Y VWant.always Y Y Y (bc (lb Y) bn) (B.append (rows:= []) (rows2:=((l.take k).map (Qe false))) (rows3:=((l.take k).map (Qe true))) (VDst.own (tv (T.os 1 0 0 0) Y) Y Y) (VSrc.read (tv (rd 1 Qe (l.take k)) Y) YJ (okInt.okMap _ _)) nofun YJ Z9 (by decide) zo3 Y (of_decide_eq_true (by kernel_rfl)) (by (simp only [List.length_map,List.length_append,List.length_cons,List.length_nil,List.length_replicate,List.length_set,List.length_drop,List.length_take,QY] at *;omega)) (List.nil_append _)) (mD (tI v) Y Y (VRunD.make Y VWant.always Y (OM.buildSlice (l:= [(tI v)]) (VEvp.cons (tv (tI v) Y) VEvp.nil) Y (by decide) (bc (nofun) bn) (bc ((bc (Y) bn)) bn) (bc (Y) bn) YJ zo3 (by kernel_rfl) Y (by rw [Z9];decide) Z9 (Nat.le_of_ble_eq_true Y)) (VRunD.quiet (bi:= [5,6,0,3,2,1,4]) Y VWant.always Y Y Y (bc (lb Y) (bc (lb Y) bn)) (B.append (rows:=((l.take k).map (Qe true))) (rows2:= [[(tI v)]]) (rows3:=(((l.take k)++ [v]).map (Qe true))) (VDst.own (tv (T.os 1 1 0 (((l.take k).map (Qe true)).length)) Y) Y Y) (VSrc.own (tv (T.os 1 2 0 1) Y) Y Y YJ (bc (bc Y bn) bn)) (by decide) YJ Z9 (by decide) zo3 Y (of_decide_eq_true (by kernel_rfl)) (by (simp only [List.length_map,List.length_append,List.length_cons,List.length_nil,List.length_replicate,List.length_set,List.length_drop,List.length_take,QY] at *;omega)) ((List.map_append (f:=Qe true) (l₁:=(l.take k)) (l₂:= [v])).symm)) ?_)))))))))))
  refine mD (rd 1 Qe l) Y Y (mD (tN k) Y Y (lD (show OL _ _ _ _ _ (T.sl false 1 ((l.drop k).map (Qe false))) by rw [List.map_drop];exact (OL.sliceRLo (i:=k) (tv (rd 1 Qe l) Y) (tv (tN k) Y) Y (by (simp only [List.length_map];omega)) YJ Z9 if3)) Y Y (VRunD.quiet (bi:= [8,9,10,4,1,2,3,0,6,5,7]) Y VWant.always Y Y Y (bc (lb Y) bn) (B.append (rows:=(((l.take k)++ [v]).map (Qe true))) (rows2:=((l.drop k).map (Qe false))) (rows3:=((((l.take k)++ [v])++(l.drop k)).map (Qe true))) (VDst.own (tv (T.os 1 3 0 ((((l.take k)++ [v]).map (Qe true)).length)) Y) Y Y) (VSrc.read (tv (rd 1 Qe (l.drop k)) Y) YJ (okInt.okMap _ _)) nofun YJ Z9 (by decide) zo3 Y (of_decide_eq_true (by kernel_rfl)) (by (simp only [List.length_map,List.length_append,List.length_cons,List.length_nil,List.length_replicate,List.length_set,List.length_drop,List.length_take,QY] at *;omega)) ((List.map_append (f:=Qe true) (l₁:=((l.take k)++ [v])) (l₂:=(l.drop k))).symm)) (fD (OF.assign (tv (T.os 1 4 0 (((((l.take k)++ [v])++(l.drop k)).map (Qe true)).length)) Y)) Y Y (VRunD.nil (tn (rt ?_)))))))
  refine vfin.eq (r':=(T.sl true 1 ((((l.take k)++ [v])++(l.drop k)).map (Qe true)))) ?_ (vfin.r (VRes.tmp (t:=(T.os 1 4 0 (((((l.take k)++ [v])++(l.drop k)).map (Qe true)).length))) Y VRes.nil) (Give.os Y Y (okInt.cleanMap _)))
  refine congrArg (fun l_=>T.sl true 1 (List.map (Qe true) l_)) ?_
  (refine Qc5 hI'.2 hI1 ?_;intro y hy;obtain rfl:=QcG hx1 hy;omega)
 refine QN 6 4 true 10 (dz fhg10_1) Y Y Y (fO (OF.pickF (VEv.tmpB Y (dz fhg10_1)) (VEv.bool false)) (nt (cf Y (VRun.exit (vthn.e (vthn.e (vinB.e (tn (sq (sr (mO (tN k) Y ?_)))))))))))
 refine mO (rd 1 Qe l) Y (lO (B.lenR (m:=l.length) (tv (rd 1 Qe l) Y) YJ (List.length_map ..)) (fO (YA (tv (tN k) Y) (tv (tN l.length) Y)) (mO (tB (decide (k<l.length))) Y (QN 6 4 true 24 (dz fhg10_1) Y Y Y (fO (OF.pickF (VEv.tmpB Y (dz fhg10_1)) (VEv.bool false)) (nt (cf Y (sk (tn (sq (VRun.draw (B:= [[],[],[],[2,1],[1,2,3,0],[],[5],[5,6,0,3,2,1,4],[],[],[9,8],[8,9,10,4,1,2,3,0,6,5,7],[7,5,6,0,3,2,1,4,10,9,8,11]]) (by kernel_rfl) (by kernel_rfl) ?_)))))))))))
 refine VRunD.make Y VWant.always Y (OM.slice0 YJ zo3 (by kernel_rfl) Y (by rw [Z9];decide) Z9) (mD (rd 1 Qe l) Y Y (mD (tN k) Y Y (lD (show OL _ _ _ _ _ (T.sl false 1 ((l.take k).map (Qe false))) by rw [List.map_take];exact (OL.sliceRHi (j:=k) (tv (rd 1 Qe l) Y) (tv (tN k) Y) Y (by (simp only [List.length_map];omega)) YJ Z9 if3)) Y Y (VRunD.quiet (bi:= [1,2,3,0]) Y VWant.always Y Y Y (bc (lb Y) bn) (B.append (rows:= []) (rows2:=((l.take k).map (Qe false))) (rows3:=((l.take k).map (Qe true))) (VDst.own (tv (T.os 1 0 0 0) Y) Y Y) (VSrc.read (tv (rd 1 Qe (l.take k)) Y) YJ (okInt.okMap _ _)) nofun YJ Z9 (by decide) zo3 Y (of_decide_eq_true (by kernel_rfl)) (by (simp only [List.length_map,List.length_append,List.length_cons,List.length_nil,List.length_replicate,List.length_set,List.length_drop,List.length_take,QY] at *;omega)) (List.nil_append _)) (mD (tI v) Y Y (VRunD.make Y VWant.always Y (OM.buildSlice (l:= [(tI v)]) (VEvp.cons (tv (tI v) Y) VEvp.nil) Y (by decide) (bc (nofun) bn) (bc ((bc (Y) bn)) bn) (bc (Y) bn) YJ zo3 (by kernel_rfl) Y (by rw [Z9];decide) Z9 (Nat.le_of_ble_eq_true Y)) (VRunD.quiet (bi:= [5,6,0,3,2,1,4]) Y VWant.always Y Y Y (bc (lb Y) (bc (lb Y) bn)) (B.append (rows:=((l.take k).map (Qe true))) (rows2:= [[(tI v)]]) (rows3:=(((l.take k)++ [v]).map (Qe true))) (VDst.own (tv (T.os 1 1 0 (((l.take k).map (Qe true)).length)) Y) Y Y) (VSrc.own (tv (T.os 1 2 0 1) Y) Y Y YJ (bc (bc Y bn) bn)) (by decide) YJ Z9 (by decide) zo3 Y (of_decide_eq_true (by kernel_rfl)) (by (simp only [List.length_map,List.length_append,List.length_cons,List.length_nil,List.length_replicate,List.length_set,List.length_drop,List.length_take,QY] at *;omega)) ((List.map_append (f:=Qe true) (l₁:=(l.take k)) (l₂:= [v])).symm)) (mD (rd 1 Qe l) Y Y (mD (tN k) Y Y (lD (show OL _ _ _ _ _ (T.sl false 1 ((l.drop k).map (Qe false))) by rw [List.map_drop];exact (OL.sliceRLo (i:=k) (tv (rd 1 Qe l) Y) (tv (tN k) Y) Y (by (simp only [List.length_map];omega)) YJ Z9 if3)) Y Y (VRunD.quiet (bi:= [8,9,10,4,1,2,3,0,6,5,7]) Y VWant.always Y Y Y (bc (lb Y) bn) (B.append (rows:=(((l.take k)++ [v]).map (Qe true))) (rows2:=((l.drop k).map (Qe false))) (rows3:=((((l.take k)++ [v])++(l.drop k)).map (Qe true))) (VDst.own (tv (T.os 1 3 0 ((((l.take k)++ [v]).map (Qe true)).length)) Y) Y Y) (VSrc.read (tv (rd 1 Qe (l.drop k)) Y) YJ (okInt.okMap _ _)) nofun YJ Z9 (by decide) zo3 Y (of_decide_eq_true (by kernel_rfl)) (by (simp only [List.length_map,List.length_append,List.length_cons,List.length_nil,List.length_replicate,List.length_set,List.length_drop,List.length_take,QY] at *;omega)) ((List.map_append (f:=Qe true) (l₁:=((l.take k)++ [v])) (l₂:=(l.drop k))).symm)) ?_)))))))))))
 refine fD (OF.assign (tv (T.os 1 4 0 (((((l.take k)++ [v])++(l.drop k)).map (Qe true)).length)) Y)) Y Y (VRunD.nil (tn (rt ?_)))
 refine vfin.eq (r':=(T.sl true 1 ((((l.take k)++ [v])++(l.drop k)).map (Qe true)))) ?_ (vfin.r (VRes.tmp (t:=(T.os 1 4 0 (((((l.take k)++ [v])++(l.drop k)).map (Qe true)).length))) Y VRes.nil) (Give.os Y Y (okInt.cleanMap _)))
 refine congrArg (fun l_=>T.sl true 1 (List.map (Qe true) l_)) ?_
 (refine Qc5 hI'.2 hI1 ?_;intro y hy;have:=(List.getElem?_eq_some_iff.1 hy).1;omega)
end Go.Proofs.YthifchndolccgaaDoor.AE
