/- The row of the law FnExactAfterHint: the law returns true at every input, and every input reads afterwards as before. Conditions: none. -/
import Derived.Test.YthifchndolccgaaDoorZFnExactAfterHintd
import Derived.Test.YthifchndolccgaaDoorTie
import Derived.Test.YthifchndolccgaaDoorCards
import Derived.Test.YthifchndolccgaaDoorRows
import Derived.WalkKit
import Derived.ProofKit
import Derived.OpenShut
import Derived.ShutString
import Derived.ChangeOld
import Derived.Below
import Derived.SizedLaws
import Derived.Carry
import Derived.LaidMore
import Derived.Lay
import Derived.Stop.Joined
import Derived.Deep.DeepHandedRow
import Derived.SevenTiedAt
namespace Go.Proofs.YthifchndolccgaaDoor.PFnExactAfterHint
open Go.ChangeShapes Go.WideShapes Go.ChangeAt Go.RowKit Go.Proofs.YthifchndolccgaaDoor.AE
set_option linter.unusedVariables false
theorem own : ownKnob Tryd.prog.godebug=none:=by kernel_rfl
theorem QaH : laidOutB Tryd.prog=true:=by kernel_rfl
set_option maxRecDepth 100000 in
theorem QfJ (os:Os) (started:os.Started) (H:Type) (enc:TypeId×Value→H) :
    ReturnsInHanded {} Tryd.checked os 4 .any ((OpenSpec.ofChange Rows.fnExactAfterHintSpec).preRow enc Tryd.prog Tryd.f4 [] false Rows.fnExactAfterHintRow.laid) (((OpenSpec.ofChange Rows.fnExactAfterHintSpec).at (fun _ _ _=>0)).post enc Tryd.prog Tryd.f4 false true false false):=by
  refine returnsInHanded_of_row (C:=Tryd.checked) (F:=fun _ _ _=>0) own started (by kernel_rfl) Tryd.func4
    (ChangeSpec.witness_shaped (enc:=enc) (C:=Tryd.checked) (os:=os) (s:=Rows.fnExactAfterHintSpec) (fn:=Tryd.f4) (conds:= []) (apart:=false) (X:=fun w _=>laidMetH Tryd.prog Rows.fnExactAfterHintRow.laid w) false (World.laidAll Tryd.prog os Rows.fnExactAfterHintRow.laid) #[.agg #[.int .i64 0, .slice none 0 0], .slice none 0 0, .int .i64 0, .string ByteArray.empty] 8 (World.laidAll_os _ _ _) (World.shaped_of_ZipB (by kernel_rfl) (by kernel_rfl)) (by kernel_rfl) (by kernel_rfl) (by kernel_rfl) (by rw [MakeChecks.laidMetH_plain _ _ _ (by kernel_rfl)];exact laidMet_laidAll _ (by kernel_rfl) (by kernel_rfl))) ?_
  intro W base args ds gs before hval0 hW hcnd _ hsz0 hL hsh _
  have hval:∀(j:Nat) t v,Tryd.f4.params[j]? =some t→args[j]? =some v→Value.okWide Tryd.prog W .any base t v:=hval0
  have hW':=hW
  obtain ⟨p,q,hA0,hV,rfl,hfz,hnd⟩:=hW
  have hA:DataW.TrodAll enc Tryd.prog W 0 (fun _=>true) true Tryd.f4.params.toList args.toList ds p:=hA0
  rw [Tryd.params4] at hA hval
  obtain ⟨v0,vs0,d0,ds0,p0,q0,hargs,rfl,rfl,h0,r0⟩:=trodAll_cons hA
  obtain ⟨v1,vs1,d1,ds1,p1,q1,rfl,rfl,rfl,h1,r1⟩:=trodAll_cons r0
  obtain ⟨v2,vs2,d2,ds2,p2,q2,rfl,rfl,rfl,h2,r2⟩:=trodAll_cons r1
  obtain ⟨v3,vs3,d3,ds3,p3,q3,rfl,rfl,rfl,h3,r3⟩:=trodAll_cons r2
  obtain ⟨rfl,rfl,rfl⟩:=trodAll_nil r3
  obtain rfl:args= #[v0,v1,v2,v3]:=by cases args;simp_all
  obtain ⟨rfl,rfl⟩:=trodVars_none hV
  obtain ⟨c0,rfl,_⟩:=okWide_struct Tryd.underlying36 (hval 0 36 v0 rfl rfl)
  have b0:=h0
  have lt0:∀x∈p0,x.block<W.heap.size:=by obtain ⟨m,hm⟩:=b0;exact DataW.trod_lt m _ _ _ hm
  obtain ⟨fu0,hf0⟩:=h0
  obtain ⟨hn0,x0,hK0,hG0⟩:=QgG H enc W _ _ _ hf0
  rw [← YO] at hK0
  have hR0:=Qfz QfN hK0
  obtain ⟨a1,n1,m1,rfl⟩:=okWide_slice Tryd.underlying37 (hval 1 37 v1 rfl rfl)
  have b1:=h1
  have lt1:∀x∈p1,x.block<W.heap.size:=by obtain ⟨m,hm⟩:=b1;exact DataW.trod_lt m _ _ _ hm
  obtain ⟨fu1,hf1⟩:=h1
  obtain ⟨hn1,x1,hK1,hG1⟩:=(JP Tryd.underlying37 (by kernel_rfl) (of_decide_eq_true (by kernel_rfl)) (Ys Tryd.underlying9)) H enc W _ _ _ hf1
  rw [← YO] at hK1
  have hR1:=QeT (t:= .sl false 1 (x1.map (Qd false))) (Qgq Qes okStr rfl) rfl hK1
  obtain ⟨i2,rfl⟩:=okWide_int Tryd.underlying3 (hval 2 3 v2 rfl rfl)
  have b2:=h2
  have lt2:∀x∈p2,x.block<W.heap.size:=by obtain ⟨m,hm⟩:=b2;exact DataW.trod_lt m _ _ _ hm
  obtain ⟨fu2,hf2⟩:=h2
  obtain ⟨hn2,x2,hK2,hG2⟩:=(Z7 (k:= .i64) Tryd.underlying3) H enc W _ _ _ hf2
  rw [← YO] at hK2
  have hR2:=Qdt (t:= .int .i64 x2) (v:=JZ (.int .i64 i2)) Qcy rfl hK2
  obtain ⟨s3,rfl⟩:=okWide_string Tryd.underlying9 (hval 3 9 v3 rfl rfl)
  have b3:=h3
  have lt3:∀x∈p3,x.block<W.heap.size:=by obtain ⟨m,hm⟩:=b3;exact DataW.trod_lt m _ _ _ hm
  obtain ⟨fu3,hf3⟩:=h3
  obtain ⟨hn3,x3,hK3,hG3⟩:=(Ys Tryd.underlying9) H enc W _ _ _ hf3
  rw [← YO] at hK3
  have hR3:=Qdt (t:= .str x3) (v:=JZ (.string s3)) Qes rfl hK3
  have hn:=Pure.bool (YG 0 x0 x1 x2 x3 hG0 hG1 hG2 hG3) (fr0 W) (RL.cons hR0 (RL.cons hR1 (RL.cons hR2 (RL.cons hR3 (RL.nil _)))))
  refine Calls.mono (Qe5 follows QdR (QaJ (Qb9 hn0) (QaJ (Qb9 hn1) (QaJ (Qb9 hn2) (QaJ (Qb9 hn3) QfT)))) hn (hg:=QfG hsh)) fun e W' ⟨he,bel⟩=> ?_
  subst he
  exact ⟨_,rfl,_,_,_,[],_,[],hW',trodAll_mk1 (shut_bool Tryd.underlying4 _),(trodAll_cons_mk (Below.trod QaH (by kernel_rfl) (of_decide_eq_true (by kernel_rfl)) b0 bel lt0) (trodAll_cons_mk (Below.trod QaH (by kernel_rfl) (of_decide_eq_true (by kernel_rfl)) b1 bel lt1) (trodAll_cons_mk (Below.trod QaH (by kernel_rfl) (of_decide_eq_true (by kernel_rfl)) b2 bel lt2) (trodAll_cons_mk (Below.trod QaH (by kernel_rfl) (of_decide_eq_true (by kernel_rfl)) b3 bel lt3) trodAll_mk0)))),rfl,bel.frame _,fun h=>by cases h⟩
theorem over : Rows.fnExactAfterHintRow.holds Tryd.pinned (OpenSpec.ofChange Rows.fnExactAfterHintSpec) :=
  OpenClaim.holds_of_wide 4 Tryd.f4 rfl rfl rfl rfl rfl rfl rfl ⟨rfl,rfl,rfl,rfl,rfl⟩ rfl rfl rfl rfl rfl (by kernel_rfl) Tryd.func4 (by kernel_rfl)
    (of_decide_eq_true (by kernel_rfl)) (by unfold Func.isWrapper;first | (rw [if_pos (by decide +kernel)];kernel_rfl) | (rw [if_neg (by decide +kernel)];exact ⟨rfl,rfl⟩))
    (fun os started H enc _=>by rw [OpenClaim.pre_eq_preRow];exact QfJ os started H enc)
end Go.Proofs.YthifchndolccgaaDoor.PFnExactAfterHint
namespace Go.Proofs.YthifchndolccgaaDoor
theorem fnExactAfterHint_holds : Rows.FnExactAfterHintCardSaid :=
  Claim7.holds_tied_plain_at .later [] [.data, .data, .data] true (true, "8a379b13017b68fc1946988d448cccaa55efd3b1ceccca8c0882f0dddc771dc8") false
    PFnExactAfterHint.over (fun _ h=>by cases h) (by kernel_rfl) (fun _ h=>by cases h) fnExactAfterHint_row_tie rfl ⟨rfl,rfl⟩ (by kernel_rfl) rfl
    (fun f fn hf hfn=>by
      obtain rfl : f = 4 := Option.some.inj ((show Tryd.prog.funcNamed "loop.example/g03003/laws.FnExactAfterHint" = some 4 by kernel_rfl).symm.trans hf) |>.symm
      obtain rfl:fn=Tryd.f4:=(Option.some.inj (Tryd.func4.symm.trans hfn)).symm
      exact ⟨by kernel_rfl,fun j t ht=>by
        rw [Tryd.params4] at ht
        have hm:t∈ [36,37,3,9]:=by simpa using Array.mem_of_getElem? ht
        have hall:([36,37,3,9].all fun u=> !Tryd.prog.wantsStandIn u)=true:=by kernel_rfl
        exact (show Tryd.prog.wantsStandIn t=false by simpa using List.all_eq_true.1 hall t hm)⟩)
    (by kernel_rfl)
#print axioms fnExactAfterHint_holds
end Go.Proofs.YthifchndolccgaaDoor
