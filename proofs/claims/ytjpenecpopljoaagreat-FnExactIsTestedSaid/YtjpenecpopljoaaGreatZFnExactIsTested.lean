/- The row of the law FnExactIsTested: the law returns true at every input, and every input reads afterwards as before. Conditions: none. -/
import Derived.Test.YtjpenecpopljoaaGreatZFnExactIsTestedf
import Derived.Test.YtjpenecpopljoaaGreatRows
import Derived.WalkKit
import Derived.ProofKit
import Derived.OpenShut
import Derived.ShutString
import Derived.ChangeOld
import Derived.Below
import Derived.SizedLaws
import Derived.Carry
namespace Go.Proofs.YtjpenecpopljoaaGreat.PFnExactIsTested
open Go.ChangeShapes Go.WideShapes Go.ChangeAt Go.RowKit Go.Proofs.YtjpenecpopljoaaGreat.AE
set_option linter.unusedVariables false
theorem own : ownKnob Tryz.prog.godebug=none:=by kernel_rfl
theorem QeS : laidOutB Tryz.prog=true:=by kernel_rfl
set_option maxRecDepth 100000 in
theorem QnG (os:Os) (started:os.Started) (H:Type) (enc:TypeId×Value→H) :
    ReturnsInHanded {} Tryz.checked os 3 .any (Rows.fnExactIsTestedSpec.pre6 enc Tryz.prog Tryz.f3 Rows.fnExactIsTestedRow.domain false) (Rows.fnExactIsTestedSpec.post enc Tryz.prog Tryz.f3 false true false false):=by
  refine returnsInHanded_of_change_sized (C:=Tryz.checked) own started (by kernel_rfl) Tryz.func3
    (ChangeSpec.witness6 (enc:=enc) (C:=Tryz.checked) false ⟨#[],#[.slice none 0 0, .agg #[.int .i64 0, .int .i64 0, .string ByteArray.empty, .slice none 0 0, .slice none 0 0, .int .i64 0], .slice none 0 0, .int .i64 0],[]⟩ 8 (by kernel_rfl) (by kernel_rfl) (by kernel_rfl) (by kernel_rfl)) ?_
  intro W base args ds gs before hval0 hW hcnd hsz0 _
  have hval:∀(j:Nat) t v,Tryz.f3.params[j]? =some t→args[j]? =some v→Value.okWide Tryz.prog W .any base t v:=hval0
  have hW':=hW
  obtain ⟨p,q,hA0,hV,rfl,hfz,hnd⟩:=hW
  have hA:DataW.TrodAll enc Tryz.prog W 0 (fun _=>true) true Tryz.f3.params.toList args.toList ds p:=hA0
  rw [Tryz.params3] at hA hval
  obtain ⟨v0,vs0,d0,ds0,p0,q0,hargs,rfl,rfl,h0,r0⟩:=trodAll_cons hA
  obtain ⟨v1,vs1,d1,ds1,p1,q1,rfl,rfl,rfl,h1,r1⟩:=trodAll_cons r0
  obtain ⟨v2,vs2,d2,ds2,p2,q2,rfl,rfl,rfl,h2,r2⟩:=trodAll_cons r1
  obtain ⟨v3,vs3,d3,ds3,p3,q3,rfl,rfl,rfl,h3,r3⟩:=trodAll_cons r2
  obtain ⟨rfl,rfl,rfl⟩:=trodAll_nil r3
  obtain rfl:args= #[v0,v1,v2,v3]:=by cases args;simp_all
  obtain ⟨rfl,rfl⟩:=trodVars_none hV
  obtain ⟨a0,n0,m0,rfl⟩:=okWide_slice Tryz.underlying22 (hval 0 22 v0 rfl rfl)
  have b0:=h0
  have lt0:∀x∈p0,x.block<W.heap.size:=by obtain ⟨m,hm⟩:=b0;exact DataW.trod_lt m _ _ _ hm
  obtain ⟨fu0,hf0⟩:=h0
  obtain ⟨hn0,x0,hK0,hG0⟩:=(Y0 Tryz.underlying22 (by kernel_rfl) (of_decide_eq_true (by kernel_rfl)) QoT) H enc W _ _ _ hf0
  rw [← Qa4] at hK0
  have hR0:=Qh2 (t:= .sl false 4 (x0.map (Qa false))) (Qk9 QlG okeReport rfl) rfl hK0
  obtain ⟨c1,rfl,_⟩:=okWide_struct Tryz.underlying28 (hval 1 28 v1 rfl rfl)
  have b1:=h1
  have lt1:∀x∈p1,x.block<W.heap.size:=by obtain ⟨m,hm⟩:=b1;exact DataW.trod_lt m _ _ _ hm
  obtain ⟨fu1,hf1⟩:=h1
  obtain ⟨hn1,x1,hK1,hG1⟩:=Qo3 H enc W _ _ _ hf1
  rw [← Qa4] at hK1
  have hR1:=Qnn QlQ hK1
  obtain ⟨a2,n2,m2,rfl⟩:=okWide_slice Tryz.underlying29 (hval 2 29 v2 rfl rfl)
  have b2:=h2
  have lt2:∀x∈p2,x.block<W.heap.size:=by obtain ⟨m,hm⟩:=b2;exact DataW.trod_lt m _ _ _ hm
  obtain ⟨fu2,hf2⟩:=h2
  obtain ⟨hn2,x2,hK2,hG2⟩:=(Y0 Tryz.underlying29 (by kernel_rfl) (of_decide_eq_true (by kernel_rfl)) Qo1) H enc W _ _ _ hf2
  rw [← Qa4] at hK2
  have hR2:=Qh2 (t:= .sl false 2 (x2.map (Qb false))) (Qk9 Qj2 okeMeaning rfl) rfl hK2
  obtain ⟨i3,rfl⟩:=okWide_int Tryz.underlying3 (hval 3 3 v3 rfl rfl)
  have b3:=h3
  have lt3:∀x∈p3,x.block<W.heap.size:=by obtain ⟨m,hm⟩:=b3;exact DataW.trod_lt m _ _ _ hm
  obtain ⟨fu3,hf3⟩:=h3
  obtain ⟨hn3,x3,hK3,hG3⟩:=(Zv (k:= .i64) Tryz.underlying3) H enc W _ _ _ hf3
  rw [← Qa4] at hK3
  have hR3:=QkV (t:= .int .i64 x3) (v:=QeH (.int .i64 i3)) QaO rfl hK3
  have hn:=Pure.bool (Qba 0 x0 x1 x2 x3 hG0 hG1 hG2 hG3) (fr0 W) (RL.cons hR0 (RL.cons hR1 (RL.cons hR2 (RL.cons hR3 (RL.nil _)))))
  refine Calls.mono (Qmj follows Qkv (QeR (Qhg hn0) (QeR (Qhg hn1) (QeR (Qhg hn2) (QeR (Qhg hn3) Qm5)))) hn) fun e W' ⟨he,bel⟩=> ?_
  subst he
  exact ⟨_,rfl,_,_,_,[],_,[],hW',trodAll_mk1 (shut_bool Tryz.underlying4 _),(trodAll_cons_mk (Below.trod QeS (by kernel_rfl) (of_decide_eq_true (by kernel_rfl)) b0 bel lt0) (trodAll_cons_mk (Below.trod QeS (by kernel_rfl) (of_decide_eq_true (by kernel_rfl)) b1 bel lt1) (trodAll_cons_mk (Below.trod QeS (by kernel_rfl) (of_decide_eq_true (by kernel_rfl)) b2 bel lt2) (trodAll_cons_mk (Below.trod QeS (by kernel_rfl) (of_decide_eq_true (by kernel_rfl)) b3 bel lt3) trodAll_mk0)))),rfl,bel.frame _,fun h=>by cases h⟩
theorem over : Rows.fnExactIsTestedRow.holds Tryz.pinned (OpenSpec.ofChange Rows.fnExactIsTestedSpec) :=
  OpenClaim.holds_of_wide 3 Tryz.f3 rfl rfl rfl rfl rfl rfl rfl ⟨rfl,rfl,rfl,rfl,rfl⟩ rfl rfl rfl rfl rfl (by kernel_rfl) Tryz.func3 (by kernel_rfl)
    (of_decide_eq_true (by kernel_rfl)) (by unfold Func.isWrapper;first | (rw [if_pos (by decide +kernel)];kernel_rfl) | (rw [if_neg (by decide +kernel)];exact ⟨rfl,rfl⟩))
    (fun os started H enc _=>QnG os started H enc)
end Go.Proofs.YtjpenecpopljoaaGreat.PFnExactIsTested
namespace Go.Proofs.YtjpenecpopljoaaGreat
theorem fnExactIsTested_holds : Rows.FnExactIsTestedSaid:=PFnExactIsTested.over
#print axioms fnExactIsTested_holds
end Go.Proofs.YtjpenecpopljoaaGreat
