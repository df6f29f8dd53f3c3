/- The row of the law FnExactMergeNotes: the law returns true at every input, and every input reads afterwards as before. Conditions: none. -/
import Derived.Test.YtnhblneeekccoaaZFnExactMergeNotesd
import Derived.Test.YtnhblneeekccoaaRows
import Derived.WalkKit
import Derived.ProofKit
import Derived.OpenShut
import Derived.ShutString
import Derived.ChangeOld
import Derived.Below
import Derived.SizedLaws
import Derived.Carry
namespace Go.Proofs.Ytnhblneeekccoaa.PFnExactMergeNotes
open Go.ChangeShapes Go.WideShapes Go.ChangeAt Go.RowKit Go.Proofs.Ytnhblneeekccoaa.AE
set_option linter.unusedVariables false
theorem own : ownKnob Try.prog.godebug=none:=by kernel_rfl
theorem Qcs : laidOutB Try.prog=true:=by kernel_rfl
set_option maxRecDepth 100000 in
theorem Qef (os:Os) (started:os.Started) (H:Type) (enc:TypeId×Value→H) :
    ReturnsInHanded {} Try.checked os 5 .any (Rows.fnExactMergeNotesSpec.pre6 enc Try.prog Try.f5 Rows.fnExactMergeNotesRow.domain false) (Rows.fnExactMergeNotesSpec.post enc Try.prog Try.f5 false true false false):=by
  refine returnsInHanded_of_change_sized (C:=Try.checked) own started (by kernel_rfl) Try.func5
    (ChangeSpec.witness6 (enc:=enc) (C:=Try.checked) false ⟨#[],#[.slice none 0 0, .slice none 0 0],[]⟩ 8 (by kernel_rfl) (by kernel_rfl) (by kernel_rfl) (by kernel_rfl)) ?_
  intro W base args ds gs before hval0 hW hcnd hsz0 _
  have hval:∀(j:Nat) t v,Try.f5.params[j]? =some t→args[j]? =some v→Value.okWide Try.prog W .any base t v:=hval0
  have hW':=hW
  obtain ⟨p,q,hA0,hV,rfl,hfz,hnd⟩:=hW
  have hA:DataW.TrodAll enc Try.prog W 0 (fun _=>true) true Try.f5.params.toList args.toList ds p:=hA0
  rw [Try.params5] at hA hval
  obtain ⟨v0,vs0,d0,ds0,p0,q0,hargs,rfl,rfl,h0,r0⟩:=trodAll_cons hA
  obtain ⟨v1,vs1,d1,ds1,p1,q1,rfl,rfl,rfl,h1,r1⟩:=trodAll_cons r0
  obtain ⟨rfl,rfl,rfl⟩:=trodAll_nil r1
  obtain rfl:args= #[v0,v1]:=by cases args;simp_all
  obtain ⟨rfl,rfl⟩:=trodVars_none hV
  obtain ⟨a0,n0,m0,rfl⟩:=okWide_slice Try.underlying22 (hval 0 22 v0 rfl rfl)
  have b0:=h0
  have lt0:∀x∈p0,x.block<W.heap.size:=by obtain ⟨m,hm⟩:=b0;exact DataW.trod_lt m _ _ _ hm
  obtain ⟨fu0,hf0⟩:=h0
  obtain ⟨hn0,x0,hK0,hG0⟩:=(Js Try.underlying22 (by kernel_rfl) (of_decide_eq_true (by kernel_rfl)) QeH) H enc W _ _ _ hf0
  rw [← J8] at hK0
  have hR0:=Qbp (t:= .sl false 4 (x0.map (Qa false))) (QeP Qdn okeNote rfl) rfl hK0
  obtain ⟨a1,n1,m1,rfl⟩:=okWide_slice Try.underlying22 (hval 1 22 v1 rfl rfl)
  have b1:=h1
  have lt1:∀x∈p1,x.block<W.heap.size:=by obtain ⟨m,hm⟩:=b1;exact DataW.trod_lt m _ _ _ hm
  obtain ⟨fu1,hf1⟩:=h1
  obtain ⟨hn1,x1,hK1,hG1⟩:=(Js Try.underlying22 (by kernel_rfl) (of_decide_eq_true (by kernel_rfl)) QeH) H enc W _ _ _ hf1
  rw [← J8] at hK1
  have hR1:=Qbp (t:= .sl false 4 (x1.map (Qa false))) (QeP Qdn okeNote rfl) rfl hK1
  have hn:=Pure.bool (Yk 0 x0 x1 hG0 hG1) (fr0 W) (RL.cons hR0 (RL.cons hR1 (RL.nil _)))
  refine Calls.mono (QdP follows Qcz (Qcm (Qdu hn0) (Qcm (Qdu hn1) Qel)) hn) fun e W' ⟨he,bel⟩=> ?_
  subst he
  exact ⟨_,rfl,_,_,_,[],_,[],hW',trodAll_mk1 (shut_bool Try.underlying4 _),(trodAll_cons_mk (Below.trod Qcs (by kernel_rfl) (of_decide_eq_true (by kernel_rfl)) b0 bel lt0) (trodAll_cons_mk (Below.trod Qcs (by kernel_rfl) (of_decide_eq_true (by kernel_rfl)) b1 bel lt1) trodAll_mk0)),rfl,bel.frame _,fun h=>by cases h⟩
theorem over : Rows.fnExactMergeNotesRow.holds Try.pinned (OpenSpec.ofChange Rows.fnExactMergeNotesSpec) :=
  OpenClaim.holds_of_wide 5 Try.f5 rfl rfl rfl rfl rfl rfl rfl ⟨rfl,rfl,rfl,rfl,rfl⟩ rfl rfl rfl rfl rfl (by kernel_rfl) Try.func5 (by kernel_rfl)
    (of_decide_eq_true (by kernel_rfl)) (by unfold Func.isWrapper;first | (rw [if_pos (by decide +kernel)];kernel_rfl) | (rw [if_neg (by decide +kernel)];exact ⟨rfl,rfl⟩))
    (fun os started H enc _=>Qef os started H enc)
end Go.Proofs.Ytnhblneeekccoaa.PFnExactMergeNotes
namespace Go.Proofs.Ytnhblneeekccoaa
theorem fnExactMergeNotes_holds : Rows.FnExactMergeNotesSaid:=PFnExactMergeNotes.over
#print axioms fnExactMergeNotes_holds
end Go.Proofs.Ytnhblneeekccoaa
