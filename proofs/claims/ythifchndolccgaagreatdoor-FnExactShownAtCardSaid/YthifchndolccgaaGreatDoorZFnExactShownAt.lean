/- The row of the law FnExactShownAt: the law returns true at every input, and every input reads afterwards as before. Conditions: none. -/
import Derived.Test.YthifchndolccgaaGreatDoorZFnExactShownAtf
import Derived.Test.YthifchndolccgaaGreatDoorTie
import Derived.Test.YthifchndolccgaaGreatDoorCards
import Derived.Test.YthifchndolccgaaGreatDoorRows
import Derived.WalkKit
import Derived.ProofKit
import Derived.OpenShut
import Derived.ShutString
import Derived.ChangeOld
import Derived.Below
import Derived.SizedLaws
import Derived.Carry
import Derived.LaidMore
import Derived.Lay
import Derived.Stop.Joined
import Derived.Deep.DeepHandedRow
import Derived.SevenTiedAt
namespace Go.Proofs.YthifchndolccgaaGreatDoor.PFnExactShownAt
open Go.ChangeShapes Go.WideShapes Go.ChangeAt Go.RowKit Go.Proofs.YthifchndolccgaaGreatDoor.AE
set_option linter.unusedVariables false
theorem own : ownKnob Tryz.prog.godebug=none:=by kernel_rfl
theorem Qja : laidOutB Tryz.prog=true:=by kernel_rfl
set_option maxRecDepth 100000 in
theorem QmU (os:Os) (started:os.Started) (H:Type) (enc:TypeId×Value→H) :
    ReturnsInHanded {} Tryz.checked os 5 .any ((OpenSpec.ofChange Rows.fnExactShownAtSpec).preRow enc Tryz.prog Tryz.f5 [] false Rows.fnExactShownAtRow.laid) (((OpenSpec.ofChange Rows.fnExactShownAtSpec).at (fun _ _ _=>0)).post enc Tryz.prog Tryz.f5 false true false false):=by
  refine returnsInHanded_of_row (C:=Tryz.checked) (F:=fun _ _ _=>0) own started (by kernel_rfl) Tryz.func5
    (ChangeSpec.witness_shaped (enc:=enc) (C:=Tryz.checked) (os:=os) (s:=Rows.fnExactShownAtSpec) (fn:=Tryz.f5) (conds:= []) (apart:=false) (X:=fun w _=>laidMetH Tryz.prog Rows.fnExactShownAtRow.laid w) false (World.laidAll Tryz.prog os Rows.fnExactShownAtRow.laid) #[.agg #[.int .i64 0, .int .i64 0, .int .i64 0, .string ByteArray.empty, .slice none 0 0, .slice none 0 0, .int .i64 0, .string ByteArray.empty, .int .i64 0, .int .i64 0], .int .i64 0] 8 (World.laidAll_os _ _ _) (World.shaped_of_ZipB (by kernel_rfl) (by kernel_rfl)) (by kernel_rfl) (by kernel_rfl) (by kernel_rfl) (by rw [MakeChecks.laidMetH_plain _ _ _ (by kernel_rfl)];exact laidMet_laidAll _ (by kernel_rfl) (by kernel_rfl))) ?_
  intro W base args ds gs before hval0 hW hcnd _ hsz0 hL hsh _
  have hval:∀(j:Nat) t v,Tryz.f5.params[j]? =some t→args[j]? =some v→Value.okWide Tryz.prog W .any base t v:=hval0
  have hW':=hW
  obtain ⟨p,q,hA0,hV,rfl,hfz,hnd⟩:=hW
  have hA:DataW.TrodAll enc Tryz.prog W 0 (fun _=>true) true Tryz.f5.params.toList args.toList ds p:=hA0
  rw [Tryz.params5] at hA hval
  obtain ⟨v0,vs0,d0,ds0,p0,q0,hargs,rfl,rfl,h0,r0⟩:=trodAll_cons hA
  obtain ⟨v1,vs1,d1,ds1,p1,q1,rfl,rfl,rfl,h1,r1⟩:=trodAll_cons r0
  obtain ⟨rfl,rfl,rfl⟩:=trodAll_nil r1
  obtain rfl:args= #[v0,v1]:=by cases args;simp_all
  obtain ⟨rfl,rfl⟩:=trodVars_none hV
  obtain ⟨c0,rfl,_⟩:=okWide_struct Tryz.underlying44 (hval 0 44 v0 rfl rfl)
  have b0:=h0
  have lt0:∀x∈p0,x.block<W.heap.size:=by obtain ⟨m,hm⟩:=b0;exact DataW.trod_lt m _ _ _ hm
  obtain ⟨fu0,hf0⟩:=h0
  obtain ⟨hn0,x0,hK0,hG0⟩:=Qob H enc W _ _ _ hf0
  rw [← Qew] at hK0
  have hR0:=Qm4 QlA hK0
  obtain ⟨i1,rfl⟩:=okWide_int Tryz.underlying3 (hval 1 3 v1 rfl rfl)
  have b1:=h1
  have lt1:∀x∈p1,x.block<W.heap.size:=by obtain ⟨m,hm⟩:=b1;exact DataW.trod_lt m _ _ _ hm
  obtain ⟨fu1,hf1⟩:=h1
  obtain ⟨hn1,x1,hK1,hG1⟩:=(ZF (k:= .i64) Tryz.underlying3) H enc W _ _ _ hf1
  rw [← Qew] at hK1
  have hR1:=QmJ (t:= .int .i64 x1) (v:=Qhj (.int .i64 i1)) QaS rfl hK1
  have hn:=Pure.bool (QaV 0 x0 x1 hG0 hG1) (fr0 W) (RL.cons hR0 (RL.cons hR1 (RL.nil _)))
  refine Calls.mono (QlP follows QjL (Qjc (Qj3 hn0) (Qjc (Qj3 hn1) QmL)) hn (hg:=QmO hsh)) fun e W' ⟨he,bel⟩=> ?_
  subst he
  exact ⟨_,rfl,_,_,_,[],_,[],hW',trodAll_mk1 (shut_bool Tryz.underlying4 _),(trodAll_cons_mk (Below.trod Qja (by kernel_rfl) (of_decide_eq_true (by kernel_rfl)) b0 bel lt0) (trodAll_cons_mk (Below.trod Qja (by kernel_rfl) (of_decide_eq_true (by kernel_rfl)) b1 bel lt1) trodAll_mk0)),rfl,bel.frame _,fun h=>by cases h⟩
theorem over : Rows.fnExactShownAtRow.holds Tryz.pinned (OpenSpec.ofChange Rows.fnExactShownAtSpec) :=
  OpenClaim.holds_of_wide 5 Tryz.f5 rfl rfl rfl rfl rfl rfl rfl ⟨rfl,rfl,rfl,rfl,rfl⟩ rfl rfl rfl rfl rfl (by kernel_rfl) Tryz.func5 (by kernel_rfl)
    (of_decide_eq_true (by kernel_rfl)) (by unfold Func.isWrapper;first | (rw [if_pos (by decide +kernel)];kernel_rfl) | (rw [if_neg (by decide +kernel)];exact ⟨rfl,rfl⟩))
    (fun os started H enc _=>by rw [OpenClaim.pre_eq_preRow];exact QmU os started H enc)
end Go.Proofs.YthifchndolccgaaGreatDoor.PFnExactShownAt
namespace Go.Proofs.YthifchndolccgaaGreatDoor
theorem fnExactShownAt_holds : Rows.FnExactShownAtCardSaid :=
  Claim7.holds_tied_plain_at .later [] [.data, .data, .data] true (true, "8aef08f5066f730ce75cf9ac12f715ede17bc86de40ff41df51c7270a012cfc5") false
    PFnExactShownAt.over (fun _ h=>by cases h) (by kernel_rfl) (fun _ h=>by cases h) fnExactShownAt_row_tie rfl ⟨rfl,rfl⟩ (by kernel_rfl) rfl
    (fun f fn hf hfn=>by
      obtain rfl : f = 5 := Option.some.inj ((show Tryz.prog.funcNamed "loop.example/g03003/laws.FnExactShownAt" = some 5 by kernel_rfl).symm.trans hf) |>.symm
      obtain rfl:fn=Tryz.f5:=(Option.some.inj (Tryz.func5.symm.trans hfn)).symm
      exact ⟨by kernel_rfl,fun j t ht=>by
        rw [Tryz.params5] at ht
        have hm:t∈ [44,3]:=by simpa using Array.mem_of_getElem? ht
        have hall:([44,3].all fun u=> !Tryz.prog.wantsStandIn u)=true:=by kernel_rfl
        exact (show Tryz.prog.wantsStandIn t=false by simpa using List.all_eq_true.1 hall t hm)⟩)
    (by kernel_rfl)
#print axioms fnExactShownAt_holds
end Go.Proofs.YthifchndolccgaaGreatDoor
