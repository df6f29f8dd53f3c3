/- The row of the law FnExactEqualNotes: the law returns true at every input, and every input reads afterwards as before; out of the printed contract and the pure statement. Conditions: none. -/
import Derived.Test.YtllkimgecapbgaaRows
import Derived.Test.YtllkimgecapbgaaOpen
import Derived.Test.YtllkimgecapbgaaStmFnExactEqualNotes
import Derived.Test.YtllkimgecapbgaaPureFnExactEqualNotes
import Derived.WalkKit
import Derived.ProofKit
import Derived.OpenShut
import Derived.ShutString
import Derived.ChangeOld
import Derived.Below
import Derived.SizedLaws
import Derived.Carry
namespace Go.Proofs.Ytllkimgecapbgaa.PFnExactEqualNotes
open Go.ChangeShapes Go.WideShapes Go.ChangeAt Go.RowKit Go.Proofs.Ytllkimgecapbgaa.Op Go.Proofs.YtllkimgecapbgaaW.PrintWords
set_option linter.unusedVariables false
theorem own : ownKnob Try.prog.godebug = none := by kernel_rfl
theorem laidOut : laidOutB Try.prog = true := by kernel_rfl
theorem ok23 : Opens Try.prog 23 k23 G23 := opens_mono (opens_struct (P := Try.prog) (t := 23) (fun x : S23 => (x.f0, x.f1, x.f2, x.f3)) (fun x => ⟨x.1, x.2.1, x.2.2.1, x.2.2.2⟩) (fun _ => rfl) Try.underlying23 (by kernel_rfl) (fields_cons rfl (by kernel_rfl) (opens_int (k := .i64) Try.underlying3) (fields_cons rfl (by kernel_rfl) (opens_string Try.underlying9) (fields_cons rfl (by kernel_rfl) (opens_int (k := .i64) Try.underlying3) (fields_one rfl (by kernel_rfl) (opens_int (k := .i64) Try.underlying3)))))) (fun _ h => h)
set_option maxRecDepth 100000 in
theorem lifted (os : Os) (started : os.Started) (H : Type) (enc : TypeId × Value → H) :
    ReturnsInHanded {} Try.checked os 5 .any (Rows.fnExactEqualNotesSpec.pre6 enc Try.prog Try.f5 Rows.fnExactEqualNotesRow.domain false) (Rows.fnExactEqualNotesSpec.post enc Try.prog Try.f5 false true false false) := by
  refine returnsInHanded_of_change_sized (C := Try.checked) own started (by kernel_rfl) Try.func5
    (ChangeSpec.witness6 (enc := enc) (C := Try.checked) false ⟨#[], #[.slice none 0 0, .slice none 0 0], []⟩ 8 (by kernel_rfl) (by kernel_rfl) (by kernel_rfl) (by kernel_rfl)) ?_
  intro W base args ds gs before hval0 hW hcnd hsz0 _
  have hval : ∀ (j : Nat) t v, Try.f5.params[j]? = some t → args[j]? = some v → Value.okWide Try.prog W .any base t v := hval0
  have hW' := hW
  obtain ⟨p, q, hA0, hV, rfl, hfz, hnd⟩ := hW
  have hA : DataW.TrodAll enc Try.prog W 0 (fun _ => true) true Try.f5.params.toList args.toList ds p := hA0
  rw [Try.params5] at hA hval
  obtain ⟨v0, vs0, d0, ds0, p0, q0, hargs, rfl, rfl, h0, r0⟩ := trodAll_cons hA
  obtain ⟨v1, vs1, d1, ds1, p1, q1, rfl, rfl, rfl, h1, r1⟩ := trodAll_cons r0
  obtain ⟨rfl, rfl, rfl⟩ := trodAll_nil r1
  obtain rfl : args = #[v0, v1] := by cases args; simp_all
  obtain ⟨rfl, rfl⟩ := trodVars_none hV
  have b0 := h0
  have lt0 : ∀ x ∈ p0, x.block < W.heap.size := by obtain ⟨m, hm⟩ := b0; exact DataW.trod_lt m _ _ _ hm
  obtain ⟨fu0, hf0⟩ := h0
  obtain ⟨x0, hK0, hG0⟩ := (opens_slice Try.underlying36 (by kernel_rfl) ok23) H enc W 0 _ _ _ _ _ hf0
  obtain ⟨a0, len0, cap0, rfl⟩ := okWide_slice Try.underlying36 (hval 0 36 v0 rfl rfl)
  obtain ⟨A0, c0, hcs0, hc0, hC0⟩ := hK0
  have hcs02 : [Value.slice a0 len0 cap0] = [Value.slice A0 x0.length c0] := hcs0
  injection hcs02 with hcs03 _
  injection hcs03 with ea0 el0 ec0
  subst ea0
  subst ec0
  subst el0
  have b1 := h1
  have lt1 : ∀ x ∈ p1, x.block < W.heap.size := by obtain ⟨m, hm⟩ := b1; exact DataW.trod_lt m _ _ _ hm
  obtain ⟨fu1, hf1⟩ := h1
  obtain ⟨x1, hK1, hG1⟩ := (opens_slice Try.underlying36 (by kernel_rfl) ok23) H enc W 0 _ _ _ _ _ hf1
  obtain ⟨a1, len1, cap1, rfl⟩ := okWide_slice Try.underlying36 (hval 1 36 v1 rfl rfl)
  obtain ⟨A1, c1, hcs1, hc1, hC1⟩ := hK1
  have hcs12 : [Value.slice a1 len1 cap1] = [Value.slice A1 x1.length c1] := hcs1
  injection hcs12 with hcs13 _
  injection hcs13 with ea1 el1 ec1
  subst ea1
  subst ec1
  subst el1
  clear hA0 hval0 hsz0
  obtain ⟨k, hk⟩ := Proved.FnExactEqualNotes x0 x1 hG0 hG1
  refine Calls.mono (laws_FnExactEqualNotes.calls (h := hk) (hr0 := hC0) (hr1 := hC1) (hc0 := hc0) (hc1 := hc1) (w := W) _ _ _ _ _ _ _ _) fun e W' ⟨he, bel0⟩ => ?_
  have bel : Below W.heap.size W W' := bel0
  subst he
  exact ⟨_, rfl, _, _, _, [], _, [], hW', trodAll_mk1 (shut_bool Try.underlying4 _), (trodAll_cons_mk (Below.trod laidOut (by kernel_rfl) (of_decide_eq_true (by kernel_rfl)) b0 bel lt0) (trodAll_cons_mk (Below.trod laidOut (by kernel_rfl) (of_decide_eq_true (by kernel_rfl)) b1 bel lt1) trodAll_mk0)), rfl, bel.frame _, fun h => by cases h⟩
theorem over : Rows.fnExactEqualNotesRow.holds Try.pinned (OpenSpec.ofChange Rows.fnExactEqualNotesSpec) :=
  OpenClaim.holds_of_wide 5 Try.f5 rfl rfl rfl rfl rfl rfl rfl ⟨rfl, rfl, rfl, rfl, rfl⟩ rfl rfl rfl rfl rfl (by kernel_rfl) Try.func5 (by kernel_rfl)
    (of_decide_eq_true (by kernel_rfl)) (by unfold Func.isWrapper; first | (rw [if_pos (by decide +kernel)]; kernel_rfl) | (rw [if_neg (by decide +kernel)]; exact ⟨rfl, rfl⟩))
    (fun os started H enc _ => lifted os started H enc)
end Go.Proofs.Ytllkimgecapbgaa.PFnExactEqualNotes
namespace Go.Proofs.Ytllkimgecapbgaa
theorem fnExactEqualNotes_holds : Rows.FnExactEqualNotesSaid := PFnExactEqualNotes.over
#print axioms fnExactEqualNotes_holds
end Go.Proofs.Ytllkimgecapbgaa
