/- The row of the law FnExactIsBetter: the law returns true at every input, and every input reads afterwards as before. Conditions: none. -/
import Derived.Test.YtjpenecpopljoaaGreatZFnExactIsBetterg
import Derived.Test.YtjpenecpopljoaaGreatRows
import Derived.WalkKit
import Derived.ProofKit
import Derived.OpenShut
import Derived.ShutString
import Derived.ChangeOld
import Derived.Below
import Derived.SizedLaws
import Derived.Carry
namespace Go.Proofs.YtjpenecpopljoaaGreat.PFnExactIsBetter
open Go.ChangeShapes Go.WideShapes Go.ChangeAt Go.RowKit Go.Proofs.YtjpenecpopljoaaGreat.AE
set_option linter.unusedVariables false
theorem own : ownKnob Tryz.prog.godebug=none:=by kernel_rfl
theorem Qft : laidOutB Tryz.prog=true:=by kernel_rfl
set_option maxRecDepth 100000 in
theorem QnX (os:Os) (started:os.Started) (H:Type) (enc:TypeId×Value→H) :
    ReturnsInHanded {} Tryz.checked os 4 .any (Rows.fnExactIsBetterSpec.pre6 enc Tryz.prog Tryz.f4 Rows.fnExactIsBetterRow.domain false) (Rows.fnExactIsBetterSpec.post enc Tryz.prog Tryz.f4 false true false false):=by
  refine returnsInHanded_of_change_sized (C:=Tryz.checked) own started (by kernel_rfl) Tryz.func4
    (ChangeSpec.witness6 (enc:=enc) (C:=Tryz.checked) false ⟨#[],#[.agg #[.int .i64 0, .int .i64 0, .int .i64 0, .string ByteArray.empty, .slice none 0 0, .slice none 0 0, .int .i64 0, .string ByteArray.empty, .int .i64 0, .int .i64 0], .agg #[.int .i64 0, .int .i64 0, .int .i64 0, .slice none 0 0, .int .i64 0], .slice none 0 0, .slice none 0 0],[]⟩ 8 (by kernel_rfl) (by kernel_rfl) (by kernel_rfl) (by kernel_rfl)) ?_
  intro W base args ds gs before hval0 hW hcnd hsz0 _
  have hval:∀(j:Nat) t v,Tryz.f4.params[j]? =some t→args[j]? =some v→Value.okWide Tryz.prog W .any base t v:=hval0
  have hW':=hW
  obtain ⟨p,q,hA0,hV,rfl,hfz,hnd⟩:=hW
  have hA:DataW.TrodAll enc Tryz.prog W 0 (fun _=>true) true Tryz.f4.params.toList args.toList ds p:=hA0
  rw [Tryz.params4] at hA hval
  obtain ⟨v0,vs0,d0,ds0,p0,q0,hargs,rfl,rfl,h0,r0⟩:=trodAll_cons hA
  obtain ⟨v1,vs1,d1,ds1,p1,q1,rfl,rfl,rfl,h1,r1⟩:=trodAll_cons r0
  obtain ⟨v2,vs2,d2,ds2,p2,q2,rfl,rfl,rfl,h2,r2⟩:=trodAll_cons r1
  obtain ⟨v3,vs3,d3,ds3,p3,q3,rfl,rfl,rfl,h3,r3⟩:=trodAll_cons r2
  obtain ⟨rfl,rfl,rfl⟩:=trodAll_nil r3
  obtain rfl:args= #[v0,v1,v2,v3]:=by cases args;simp_all
  obtain ⟨rfl,rfl⟩:=trodVars_none hV
  obtain ⟨c0,rfl,_⟩:=okWide_struct Tryz.underlying48 (hval 0 48 v0 rfl rfl)
  have b0:=h0
  have lt0:∀x∈p0,x.block<W.heap.size:=by obtain ⟨m,hm⟩:=b0;exact DataW.trod_lt m _ _ _ hm
  obtain ⟨fu0,hf0⟩:=h0
  obtain ⟨hn0,x0,hK0,hG0⟩:=QpV H enc W _ _ _ hf0
  rw [← Qbw] at hK0
  have hR0:=Ql7 QmR hK0
  obtain ⟨c1,rfl,_⟩:=okWide_struct Tryz.underlying53 (hval 1 53 v1 rfl rfl)
  have b1:=h1
  have lt1:∀x∈p1,x.block<W.heap.size:=by obtain ⟨m,hm⟩:=b1;exact DataW.trod_lt m _ _ _ hm
  obtain ⟨fu1,hf1⟩:=h1
  obtain ⟨hn1,x1,hK1,hG1⟩:=QpQ H enc W _ _ _ hf1
  rw [← Qbw] at hK1
  have hR1:=Ql7 Qh5 hK1
  obtain ⟨a2,n2,m2,rfl⟩:=okWide_slice Tryz.underlying29 (hval 2 29 v2 rfl rfl)
  have b2:=h2
  have lt2:∀x∈p2,x.block<W.heap.size:=by obtain ⟨m,hm⟩:=b2;exact DataW.trod_lt m _ _ _ hm
  obtain ⟨fu2,hf2⟩:=h2
  obtain ⟨hn2,x2,hK2,hG2⟩:=(Je Tryz.underlying29 (by kernel_rfl) (of_decide_eq_true (by kernel_rfl)) QpS) H enc W _ _ _ hf2
  rw [← Qbw] at hK2
  have hR2:=Qjs (t:= .sl false 2 (x2.map (Qb false))) (QmG QkQ okeMeaning rfl) rfl hK2
  obtain ⟨a3,n3,m3,rfl⟩:=okWide_slice Tryz.underlying54 (hval 3 54 v3 rfl rfl)
  have b3:=h3
  have lt3:∀x∈p3,x.block<W.heap.size:=by obtain ⟨m,hm⟩:=b3;exact DataW.trod_lt m _ _ _ hm
  obtain ⟨fu3,hf3⟩:=h3
  obtain ⟨hn3,x3,hK3,hG3⟩:=(Je Tryz.underlying54 (by kernel_rfl) (of_decide_eq_true (by kernel_rfl)) (YT Tryz.underlying9)) H enc W _ _ _ hf3
  rw [← Qbw] at hK3
  have hR3:=Qjs (t:= .sl false 1 (x3.map (Qj false))) (QmG Qi8 okStr rfl) rfl hK3
  have hn:=Pure.bool (QbB 0 x0 x1 x2 x3 hG0 hG1 hG2 hG3) (fr0 W) (RL.cons hR0 (RL.cons hR1 (RL.cons hR2 (RL.cons hR3 (RL.nil _)))))
  refine Calls.mono (QmU follows QkL (Qfo (Qin hn0) (Qfo (Qin hn1) (Qfo (Qin hn2) (Qfo (Qin hn3) Qod)))) hn) fun e W' ⟨he,bel⟩=> ?_
  subst he
  exact ⟨_,rfl,_,_,_,[],_,[],hW',trodAll_mk1 (shut_bool Tryz.underlying4 _),(trodAll_cons_mk (Below.trod Qft (by kernel_rfl) (of_decide_eq_true (by kernel_rfl)) b0 bel lt0) (trodAll_cons_mk (Below.trod Qft (by kernel_rfl) (of_decide_eq_true (by kernel_rfl)) b1 bel lt1) (trodAll_cons_mk (Below.trod Qft (by kernel_rfl) (of_decide_eq_true (by kernel_rfl)) b2 bel lt2) (trodAll_cons_mk (Below.trod Qft (by kernel_rfl) (of_decide_eq_true (by kernel_rfl)) b3 bel lt3) trodAll_mk0)))),rfl,bel.frame _,fun h=>by cases h⟩
theorem over : Rows.fnExactIsBetterRow.holds Tryz.pinned (OpenSpec.ofChange Rows.fnExactIsBetterSpec) :=
  OpenClaim.holds_of_wide 4 Tryz.f4 rfl rfl rfl rfl rfl rfl rfl ⟨rfl,rfl,rfl,rfl,rfl⟩ rfl rfl rfl rfl rfl (by kernel_rfl) Tryz.func4 (by kernel_rfl)
    (of_decide_eq_true (by kernel_rfl)) (by unfold Func.isWrapper;first | (rw [if_pos (by decide +kernel)];kernel_rfl) | (rw [if_neg (by decide +kernel)];exact ⟨rfl,rfl⟩))
    (fun os started H enc _=>QnX os started H enc)
end Go.Proofs.YtjpenecpopljoaaGreat.PFnExactIsBetter
namespace Go.Proofs.YtjpenecpopljoaaGreat
theorem fnExactIsBetter_holds : Rows.FnExactIsBetterSaid:=PFnExactIsBetter.over
#print axioms fnExactIsBetter_holds
end Go.Proofs.YtjpenecpopljoaaGreat
