/- The row of the law FnExactPuzzleAt: the law returns true at every input, and every input reads afterwards as before. Conditions: none. -/
import Derived.Test.YtcccmceoplcciaaGreatZFnExactPuzzleAtg
import Derived.Test.YtcccmceoplcciaaGreatRows
import Derived.WalkKit
import Derived.ProofKit
import Derived.OpenShut
import Derived.ShutString
import Derived.ChangeOld
import Derived.Below
import Derived.SizedLaws
import Derived.Carry
namespace Go.Proofs.YtcccmceoplcciaaGreat.PFnExactPuzzleAt
open Go.ChangeShapes Go.WideShapes Go.ChangeAt Go.RowKit Go.Proofs.YtcccmceoplcciaaGreat.AE
set_option linter.unusedVariables false
theorem own : ownKnob Tryz.prog.godebug=none:=by kernel_rfl
theorem Qha : laidOutB Tryz.prog=true:=by kernel_rfl
set_option maxRecDepth 100000 in
theorem QnA (os:Os) (started:os.Started) (H:Type) (enc:TypeId×Value→H) :
    ReturnsInHanded {} Tryz.checked os 5 .any (Rows.fnExactPuzzleAtSpec.pre6 enc Tryz.prog Tryz.f5 Rows.fnExactPuzzleAtRow.domain false) (Rows.fnExactPuzzleAtSpec.post enc Tryz.prog Tryz.f5 false true false false):=by
  refine returnsInHanded_of_change_sized (C:=Tryz.checked) own started (by kernel_rfl) Tryz.func5
    (ChangeSpec.witness6 (enc:=enc) (C:=Tryz.checked) false ⟨#[],#[.agg #[.int .i64 0, .int .i64 0, .int .i64 0, .string ByteArray.empty, .slice none 0 0, .slice none 0 0, .int .i64 0, .string ByteArray.empty, .int .i64 0, .int .i64 0], .slice none 0 0, .int .i64 0],[]⟩ 8 (by kernel_rfl) (by kernel_rfl) (by kernel_rfl) (by kernel_rfl)) ?_
  intro W base args ds gs before hval0 hW hcnd hsz0 _
  have hval:∀(j:Nat) t v,Tryz.f5.params[j]? =some t→args[j]? =some v→Value.okWide Tryz.prog W .any base t v:=hval0
  have hW':=hW
  obtain ⟨p,q,hA0,hV,rfl,hfz,hnd⟩:=hW
  have hA:DataW.TrodAll enc Tryz.prog W 0 (fun _=>true) true Tryz.f5.params.toList args.toList ds p:=hA0
  rw [Tryz.params5] at hA hval
  obtain ⟨v0,vs0,d0,ds0,p0,q0,hargs,rfl,rfl,h0,r0⟩:=trodAll_cons hA
  obtain ⟨v1,vs1,d1,ds1,p1,q1,rfl,rfl,rfl,h1,r1⟩:=trodAll_cons r0
  obtain ⟨v2,vs2,d2,ds2,p2,q2,rfl,rfl,rfl,h2,r2⟩:=trodAll_cons r1
  obtain ⟨rfl,rfl,rfl⟩:=trodAll_nil r2
  obtain rfl:args= #[v0,v1,v2]:=by cases args;simp_all
  obtain ⟨rfl,rfl⟩:=trodVars_none hV
  obtain ⟨c0,rfl,_⟩:=okWide_struct Tryz.underlying29 (hval 0 29 v0 rfl rfl)
  have b0:=h0
  have lt0:∀x∈p0,x.block<W.heap.size:=by obtain ⟨m,hm⟩:=b0;exact DataW.trod_lt m _ _ _ hm
  obtain ⟨fu0,hf0⟩:=h0
  obtain ⟨hn0,x0,hK0,hG0⟩:=Qpc H enc W _ _ _ hf0
  rw [← Qc2] at hK0
  have hR0:=QnL QmM hK0
  obtain ⟨a1,n1,m1,rfl⟩:=okWide_slice Tryz.underlying30 (hval 1 30 v1 rfl rfl)
  have b1:=h1
  have lt1:∀x∈p1,x.block<W.heap.size:=by obtain ⟨m,hm⟩:=b1;exact DataW.trod_lt m _ _ _ hm
  obtain ⟨fu1,hf1⟩:=h1
  obtain ⟨hn1,x1,hK1,hG1⟩:=(JU Tryz.underlying30 (by kernel_rfl) (of_decide_eq_true (by kernel_rfl)) QoZ) H enc W _ _ _ hf1
  rw [← Qc2] at hK1
  have hR1:=Qmm (t:= .sl false 5 (x1.map (Qa false))) (QmN Qhe okeCorrection rfl) rfl hK1
  obtain ⟨i2,rfl⟩:=okWide_int Tryz.underlying3 (hval 2 3 v2 rfl rfl)
  have b2:=h2
  have lt2:∀x∈p2,x.block<W.heap.size:=by obtain ⟨m,hm⟩:=b2;exact DataW.trod_lt m _ _ _ hm
  obtain ⟨fu2,hf2⟩:=h2
  obtain ⟨hn2,x2,hK2,hG2⟩:=(Zq (k:= .i64) Tryz.underlying3) H enc W _ _ _ hf2
  rw [← Qc2] at hK2
  have hR2:=QlD (t:= .int .i64 x2) (v:=QeX (.int .i64 i2)) Qae rfl hK2
  have hn:=Pure.bool (Qbk 0 x0 x1 x2 hG0 hG1 hG2) (fr0 W) (RL.cons hR0 (RL.cons hR1 (RL.cons hR2 (RL.nil _))))
  refine Calls.mono (QmO follows QkU (Qhq (Qjf hn0) (Qhq (Qjf hn1) (Qhq (Qjf hn2) QnO))) hn) fun e W' ⟨he,bel⟩=> ?_
  subst he
  exact ⟨_,rfl,_,_,_,[],_,[],hW',trodAll_mk1 (shut_bool Tryz.underlying4 _),(trodAll_cons_mk (Below.trod Qha (by kernel_rfl) (of_decide_eq_true (by kernel_rfl)) b0 bel lt0) (trodAll_cons_mk (Below.trod Qha (by kernel_rfl) (of_decide_eq_true (by kernel_rfl)) b1 bel lt1) (trodAll_cons_mk (Below.trod Qha (by kernel_rfl) (of_decide_eq_true (by kernel_rfl)) b2 bel lt2) trodAll_mk0))),rfl,bel.frame _,fun h=>by cases h⟩
theorem over : Rows.fnExactPuzzleAtRow.holds Tryz.pinned (OpenSpec.ofChange Rows.fnExactPuzzleAtSpec) :=
  OpenClaim.holds_of_wide 5 Tryz.f5 rfl rfl rfl rfl rfl rfl rfl ⟨rfl,rfl,rfl,rfl,rfl⟩ rfl rfl rfl rfl rfl (by kernel_rfl) Tryz.func5 (by kernel_rfl)
    (of_decide_eq_true (by kernel_rfl)) (by unfold Func.isWrapper;first | (rw [if_pos (by decide +kernel)];kernel_rfl) | (rw [if_neg (by decide +kernel)];exact ⟨rfl,rfl⟩))
    (fun os started H enc _=>QnA os started H enc)
end Go.Proofs.YtcccmceoplcciaaGreat.PFnExactPuzzleAt
namespace Go.Proofs.YtcccmceoplcciaaGreat
theorem fnExactPuzzleAt_holds : Rows.FnExactPuzzleAtSaid:=PFnExactPuzzleAt.over
#print axioms fnExactPuzzleAt_holds
end Go.Proofs.YtcccmceoplcciaaGreat
