/- The row of the law FnReused: the law returns true at every input, and every input reads afterwards as before. Conditions: none. -/
import Derived.Test.YtcglnehpapgfpaaZFnReusedd
import Derived.Test.YtcglnehpapgfpaaRows
import Derived.WalkKit
import Derived.ProofKit
import Derived.OpenShut
import Derived.ShutString
import Derived.ChangeOld
import Derived.Below
import Derived.SizedLaws
import Derived.Carry
namespace Go.Proofs.Ytcglnehpapgfpaa.PFnReused
open Go.ChangeShapes Go.WideShapes Go.ChangeAt Go.RowKit Go.Proofs.Ytcglnehpapgfpaa.AE
set_option linter.unusedVariables false
theorem own : ownKnob Try.prog.godebug=none:=by kernel_rfl
theorem Qd4 : laidOutB Try.prog=true:=by kernel_rfl
set_option maxRecDepth 100000 in
theorem QeW (os:Os) (started:os.Started) (H:Type) (enc:TypeId×Value→H) :
    ReturnsInHanded {} Try.checked os 3 .any (Rows.fnReusedSpec.pre6 enc Try.prog Try.f3 Rows.fnReusedRow.domain false) (Rows.fnReusedSpec.post enc Try.prog Try.f3 false true false false):=by
  refine returnsInHanded_of_change_sized (C:=Try.checked) own started (by kernel_rfl) Try.func3
    (ChangeSpec.witness6 (enc:=enc) (C:=Try.checked) false ⟨#[],#[.slice none 0 0],[]⟩ 8 (by kernel_rfl) (by kernel_rfl) (by kernel_rfl) (by kernel_rfl)) ?_
  intro W base args ds gs before hval0 hW hcnd hsz0 _
  have hval:∀(j:Nat) t v,Try.f3.params[j]? =some t→args[j]? =some v→Value.okWide Try.prog W .any base t v:=hval0
  have hW':=hW
  obtain ⟨p,q,hA0,hV,rfl,hfz,hnd⟩:=hW
  have hA:DataW.TrodAll enc Try.prog W 0 (fun _=>true) true Try.f3.params.toList args.toList ds p:=hA0
  rw [Try.params3] at hA hval
  obtain ⟨v0,vs0,d0,ds0,p0,q0,hargs,rfl,rfl,h0,r0⟩:=trodAll_cons hA
  obtain ⟨rfl,rfl,rfl⟩:=trodAll_nil r0
  obtain rfl:args= #[v0]:=by cases args;simp_all
  obtain ⟨rfl,rfl⟩:=trodVars_none hV
  obtain ⟨a0,n0,m0,rfl⟩:=okWide_slice Try.underlying22 (hval 0 22 v0 rfl rfl)
  have b0:=h0
  have lt0:∀x∈p0,x.block<W.heap.size:=by obtain ⟨m,hm⟩:=b0;exact DataW.trod_lt m _ _ _ hm
  obtain ⟨fu0,hf0⟩:=h0
  obtain ⟨hn0,x0,hK0,hG0⟩:=(Qbf Try.underlying22 (by kernel_rfl) (of_decide_eq_true (by kernel_rfl)) (Qcn (k:= .u8) Try.underlying5)) H enc W _ _ _ hf0
  rw [← Qck] at hK0
  have hR0:=QdB (t:= .sl false 1 (x0.map (Qf false))) (QfB QeR Qe1 rfl) rfl hK0
  have hn:=Pure.bool (Qaa 0 x0 hG0) (fr0 W) (RL.cons hR0 (RL.nil _))
  refine Calls.mono (Qed follows Qc4 (Qee (QeF hn0) QeB) hn) fun e W' ⟨he,bel⟩=> ?_
  subst he
  exact ⟨_,rfl,_,_,_,[],_,[],hW',trodAll_mk1 (shut_bool Try.underlying4 _),(trodAll_cons_mk (Below.trod Qd4 (by kernel_rfl) (of_decide_eq_true (by kernel_rfl)) b0 bel lt0) trodAll_mk0),rfl,bel.frame _,fun h=>by cases h⟩
theorem over : Rows.fnReusedRow.holds Try.pinned (OpenSpec.ofChange Rows.fnReusedSpec) :=
  OpenClaim.holds_of_wide 3 Try.f3 rfl rfl rfl rfl rfl rfl rfl ⟨rfl,rfl,rfl,rfl,rfl⟩ rfl rfl rfl rfl rfl (by kernel_rfl) Try.func3 (by kernel_rfl)
    (of_decide_eq_true (by kernel_rfl)) (by unfold Func.isWrapper;first | (rw [if_pos (by decide +kernel)];kernel_rfl) | (rw [if_neg (by decide +kernel)];exact ⟨rfl,rfl⟩))
    (fun os started H enc _=>QeW os started H enc)
end Go.Proofs.Ytcglnehpapgfpaa.PFnReused
namespace Go.Proofs.Ytcglnehpapgfpaa
theorem fnReused_holds : Rows.FnReusedSaid:=PFnReused.over
#print axioms fnReused_holds
end Go.Proofs.Ytcglnehpapgfpaa
