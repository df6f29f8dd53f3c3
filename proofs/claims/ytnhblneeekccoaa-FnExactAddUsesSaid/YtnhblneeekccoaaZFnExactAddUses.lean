/- The row of the law FnExactAddUses: the law returns true at every input, and every input reads afterwards as before. Conditions: none. -/
import Derived.Test.YtnhblneeekccoaaZFnExactAddUsesc
import Derived.Test.YtnhblneeekccoaaRows
import Derived.WalkKit
import Derived.ProofKit
import Derived.OpenShut
import Derived.ShutString
import Derived.ChangeOld
import Derived.Below
import Derived.SizedLaws
import Derived.Carry
namespace Go.Proofs.Ytnhblneeekccoaa.PFnExactAddUses
open Go.ChangeShapes Go.WideShapes Go.ChangeAt Go.RowKit Go.Proofs.Ytnhblneeekccoaa.AE
set_option linter.unusedVariables false
theorem own : ownKnob Try.prog.godebug=none:=by kernel_rfl
theorem Qa2 : laidOutB Try.prog=true:=by kernel_rfl
set_option maxRecDepth 100000 in
theorem QeM (os:Os) (started:os.Started) (H:Type) (enc:TypeId×Value→H) :
    ReturnsInHanded {} Try.checked os 4 .any (Rows.fnExactAddUsesSpec.pre6 enc Try.prog Try.f4 Rows.fnExactAddUsesRow.domain false) (Rows.fnExactAddUsesSpec.post enc Try.prog Try.f4 false true false false):=by
  refine returnsInHanded_of_change_sized (C:=Try.checked) own started (by kernel_rfl) Try.func4
    (ChangeSpec.witness6 (enc:=enc) (C:=Try.checked) false ⟨#[],#[.slice none 0 0, .slice none 0 0, .int .i64 0],[]⟩ 8 (by kernel_rfl) (by kernel_rfl) (by kernel_rfl) (by kernel_rfl)) ?_
  intro W base args ds gs before hval0 hW hcnd hsz0 _
  have hval:∀(j:Nat) t v,Try.f4.params[j]? =some t→args[j]? =some v→Value.okWide Try.prog W .any base t v:=hval0
  have hW':=hW
  obtain ⟨p,q,hA0,hV,rfl,hfz,hnd⟩:=hW
  have hA:DataW.TrodAll enc Try.prog W 0 (fun _=>true) true Try.f4.params.toList args.toList ds p:=hA0
  rw [Try.params4] at hA hval
  obtain ⟨v0,vs0,d0,ds0,p0,q0,hargs,rfl,rfl,h0,r0⟩:=trodAll_cons hA
  obtain ⟨v1,vs1,d1,ds1,p1,q1,rfl,rfl,rfl,h1,r1⟩:=trodAll_cons r0
  obtain ⟨v2,vs2,d2,ds2,p2,q2,rfl,rfl,rfl,h2,r2⟩:=trodAll_cons r1
  obtain ⟨rfl,rfl,rfl⟩:=trodAll_nil r2
  obtain rfl:args= #[v0,v1,v2]:=by cases args;simp_all
  obtain ⟨rfl,rfl⟩:=trodVars_none hV
  obtain ⟨a0,n0,m0,rfl⟩:=okWide_slice Try.underlying35 (hval 0 35 v0 rfl rfl)
  have b0:=h0
  have lt0:∀x∈p0,x.block<W.heap.size:=by obtain ⟨m,hm⟩:=b0;exact DataW.trod_lt m _ _ _ hm
  obtain ⟨fu0,hf0⟩:=h0
  obtain ⟨hn0,x0,hK0,hG0⟩:=(Jf Try.underlying35 (by kernel_rfl) (of_decide_eq_true (by kernel_rfl)) Qfg) H enc W _ _ _ hf0
  rw [← Y6] at hK0
  have hR0:=QbO (t:= .sl false 2 (x0.map (Qa false))) (QeV Qew okeUsed rfl) rfl hK0
  obtain ⟨a1,n1,m1,rfl⟩:=okWide_slice Try.underlying36 (hval 1 36 v1 rfl rfl)
  have b1:=h1
  have lt1:∀x∈p1,x.block<W.heap.size:=by obtain ⟨m,hm⟩:=b1;exact DataW.trod_lt m _ _ _ hm
  obtain ⟨fu1,hf1⟩:=h1
  obtain ⟨hn1,x1,hK1,hG1⟩:=(Jf Try.underlying36 (by kernel_rfl) (of_decide_eq_true (by kernel_rfl)) (Y1 Try.underlying9)) H enc W _ _ _ hf1
  rw [← Y6] at hK1
  have hR1:=QbO (t:= .sl false 1 (x1.map (Qf false))) (QeV Qej okStr rfl) rfl hK1
  obtain ⟨i2,rfl⟩:=okWide_int Try.underlying3 (hval 2 3 v2 rfl rfl)
  have b2:=h2
  have lt2:∀x∈p2,x.block<W.heap.size:=by obtain ⟨m,hm⟩:=b2;exact DataW.trod_lt m _ _ _ hm
  obtain ⟨fu2,hf2⟩:=h2
  obtain ⟨hn2,x2,hK2,hG2⟩:=(Qag (k:= .i64) Try.underlying3) H enc W _ _ _ hf2
  rw [← Y6] at hK2
  have hR2:=Qda (t:= .int .i64 x2) (v:=QbE (.int .i64 i2)) Qeh rfl hK2
  have hn:=Pure.bool (Yx 0 x0 x1 x2 hG0 hG1 hG2) (fr0 W) (RL.cons hR0 (RL.cons hR1 (RL.cons hR2 (RL.nil _))))
  refine Calls.mono (QdX follows QcZ (Qbb (Qcv hn0) (Qbb (Qcv hn1) (Qbb (Qcv hn2) Qeo))) hn) fun e W' ⟨he,bel⟩=> ?_
  subst he
  exact ⟨_,rfl,_,_,_,[],_,[],hW',trodAll_mk1 (shut_bool Try.underlying4 _),(trodAll_cons_mk (Below.trod Qa2 (by kernel_rfl) (of_decide_eq_true (by kernel_rfl)) b0 bel lt0) (trodAll_cons_mk (Below.trod Qa2 (by kernel_rfl) (of_decide_eq_true (by kernel_rfl)) b1 bel lt1) (trodAll_cons_mk (Below.trod Qa2 (by kernel_rfl) (of_decide_eq_true (by kernel_rfl)) b2 bel lt2) trodAll_mk0))),rfl,bel.frame _,fun h=>by cases h⟩
theorem over : Rows.fnExactAddUsesRow.holds Try.pinned (OpenSpec.ofChange Rows.fnExactAddUsesSpec) :=
  OpenClaim.holds_of_wide 4 Try.f4 rfl rfl rfl rfl rfl rfl rfl ⟨rfl,rfl,rfl,rfl,rfl⟩ rfl rfl rfl rfl rfl (by kernel_rfl) Try.func4 (by kernel_rfl)
    (of_decide_eq_true (by kernel_rfl)) (by unfold Func.isWrapper;first | (rw [if_pos (by decide +kernel)];kernel_rfl) | (rw [if_neg (by decide +kernel)];exact ⟨rfl,rfl⟩))
    (fun os started H enc _=>QeM os started H enc)
end Go.Proofs.Ytnhblneeekccoaa.PFnExactAddUses
namespace Go.Proofs.Ytnhblneeekccoaa
theorem fnExactAddUses_holds : Rows.FnExactAddUsesSaid:=PFnExactAddUses.over
#print axioms fnExactAddUses_holds
end Go.Proofs.Ytnhblneeekccoaa
