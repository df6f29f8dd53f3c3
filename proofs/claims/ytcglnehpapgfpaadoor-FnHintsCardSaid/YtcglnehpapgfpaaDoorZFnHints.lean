/- The row of the law FnHints: the law returns true at every input, and every input reads afterwards as before. Conditions: none. -/
import Derived.Test.YtcglnehpapgfpaaDoorZFnHintsf
import Derived.Test.YtcglnehpapgfpaaDoorTie
import Derived.Test.YtcglnehpapgfpaaDoorCards
import Derived.Test.YtcglnehpapgfpaaDoorRows
import Derived.WalkKit
import Derived.ProofKit
import Derived.OpenShut
import Derived.ShutString
import Derived.ChangeOld
import Derived.Below
import Derived.SizedLaws
import Derived.Carry
import Derived.LaidMore
import Derived.Lay
import Derived.Stop.Joined
import Derived.Deep.DeepHandedRow
import Derived.SevenTiedAt
namespace Go.Proofs.YtcglnehpapgfpaaDoor.PFnHints
open Go.ChangeShapes Go.WideShapes Go.ChangeAt Go.RowKit Go.Proofs.YtcglnehpapgfpaaDoor.AE
set_option linter.unusedVariables false
theorem own : ownKnob Tryd.prog.godebug=none:=by kernel_rfl
theorem QfS : laidOutB Tryd.prog=true:=by kernel_rfl
set_option maxRecDepth 100000 in
theorem Qgx (os:Os) (started:os.Started) (H:Type) (enc:TypeId×Value→H) :
    ReturnsInHanded {} Tryd.checked os 3 .any ((OpenSpec.ofChange Rows.fnHintsSpec).preRow enc Tryd.prog Tryd.f3 [] false Rows.fnHintsRow.laid) (((OpenSpec.ofChange Rows.fnHintsSpec).at (fun _ _ _=>0)).post enc Tryd.prog Tryd.f3 false true false false):=by
  refine returnsInHanded_of_row (C:=Tryd.checked) (F:=fun _ _ _=>0) own started (by kernel_rfl) Tryd.func3
    (ChangeSpec.witness_shaped (enc:=enc) (C:=Tryd.checked) (os:=os) (s:=Rows.fnHintsSpec) (fn:=Tryd.f3) (conds:= []) (apart:=false) (X:=fun w _=>laidMetH Tryd.prog Rows.fnHintsRow.laid w) false (World.laidAll Tryd.prog os Rows.fnHintsRow.laid) #[.slice none 0 0] 8 (World.laidAll_os _ _ _) (World.shaped_of_ZipB (by kernel_rfl) (by kernel_rfl)) (by kernel_rfl) (by kernel_rfl) (by kernel_rfl) (by rw [MakeChecks.laidMetH_plain _ _ _ (by kernel_rfl)];exact laidMet_laidAll _ (by kernel_rfl) (by kernel_rfl))) ?_
  intro W base args ds gs before hval0 hW hcnd _ hsz0 hL hsh _
  have hval:∀(j:Nat) t v,Tryd.f3.params[j]? =some t→args[j]? =some v→Value.okWide Tryd.prog W .any base t v:=hval0
  have hW':=hW
  obtain ⟨p,q,hA0,hV,rfl,hfz,hnd⟩:=hW
  have hA:DataW.TrodAll enc Tryd.prog W 0 (fun _=>true) true Tryd.f3.params.toList args.toList ds p:=hA0
  rw [Tryd.params3] at hA hval
  obtain ⟨v0,vs0,d0,ds0,p0,q0,hargs,rfl,rfl,h0,r0⟩:=trodAll_cons hA
  obtain ⟨rfl,rfl,rfl⟩:=trodAll_nil r0
  obtain rfl:args= #[v0]:=by cases args;simp_all
  obtain ⟨rfl,rfl⟩:=trodVars_none hV
  obtain ⟨a0,n0,m0,rfl⟩:=okWide_slice Tryd.underlying22 (hval 0 22 v0 rfl rfl)
  have b0:=h0
  have lt0:∀x∈p0,x.block<W.heap.size:=by obtain ⟨m,hm⟩:=b0;exact DataW.trod_lt m _ _ _ hm
  obtain ⟨fu0,hf0⟩:=h0
  obtain ⟨hn0,x0,hK0,hG0⟩:=(QcX Tryd.underlying22 (by kernel_rfl) (of_decide_eq_true (by kernel_rfl)) (Qea (k:= .u8) Tryd.underlying5)) H enc W _ _ _ hf0
  rw [← QdR] at hK0
  have hR0:=QeW (t:= .sl false 1 (x0.map (Qi false))) (Qhl QgM Qgf rfl) rfl hK0
  have hn:=Pure.bool (QbD 0 x0 hG0) (fr0 W) (RL.cons hR0 (RL.nil _))
  refine Calls.mono (QfO follows QeP (QfV (QgF hn0) Qgh) hn (hg:=Qgo hsh)) fun e W' ⟨he,bel⟩=> ?_
  subst he
  exact ⟨_,rfl,_,_,_,[],_,[],hW',trodAll_mk1 (shut_bool Tryd.underlying4 _),(trodAll_cons_mk (Below.trod QfS (by kernel_rfl) (of_decide_eq_true (by kernel_rfl)) b0 bel lt0) trodAll_mk0),rfl,bel.frame _,fun h=>by cases h⟩
theorem over : Rows.fnHintsRow.holds Tryd.pinned (OpenSpec.ofChange Rows.fnHintsSpec) :=
  OpenClaim.holds_of_wide 3 Tryd.f3 rfl rfl rfl rfl rfl rfl rfl ⟨rfl,rfl,rfl,rfl,rfl⟩ rfl rfl rfl rfl rfl (by kernel_rfl) Tryd.func3 (by kernel_rfl)
    (of_decide_eq_true (by kernel_rfl)) (by unfold Func.isWrapper;first | (rw [if_pos (by decide +kernel)];kernel_rfl) | (rw [if_neg (by decide +kernel)];exact ⟨rfl,rfl⟩))
    (fun os started H enc _=>by rw [OpenClaim.pre_eq_preRow];exact Qgx os started H enc)
end Go.Proofs.YtcglnehpapgfpaaDoor.PFnHints
namespace Go.Proofs.YtcglnehpapgfpaaDoor
theorem fnHints_holds : Rows.FnHintsCardSaid :=
  Claim7.holds_tied_plain_at .later [] [.data, .data, .data] true (true, "cdd9389bbf68c6426642751ddc93712ef31b70e3b89c97ad61167d1525980d92") false
    PFnHints.over (fun _ h=>by cases h) (by kernel_rfl) (fun _ h=>by cases h) fnHints_row_tie rfl ⟨rfl,rfl⟩ (by kernel_rfl) rfl
    (fun f fn hf hfn=>by
      obtain rfl : f = 3 := Option.some.inj ((show Tryd.prog.funcNamed "loop.example/g03003/laws.FnHints" = some 3 by kernel_rfl).symm.trans hf) |>.symm
      obtain rfl:fn=Tryd.f3:=(Option.some.inj (Tryd.func3.symm.trans hfn)).symm
      exact ⟨by kernel_rfl,fun j t ht=>by
        rw [Tryd.params3] at ht
        have hm:t∈ [22]:=by simpa using Array.mem_of_getElem? ht
        have hall:([22].all fun u=> !Tryd.prog.wantsStandIn u)=true:=by kernel_rfl
        exact (show Tryd.prog.wantsStandIn t=false by simpa using List.all_eq_true.1 hall t hm)⟩)
    (by kernel_rfl)
#print axioms fnHints_holds
end Go.Proofs.YtcglnehpapgfpaaDoor
