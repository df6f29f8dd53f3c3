/- The row of the law FnExactMayUse: the law returns true at every input, and every input reads afterwards as before; out of the printed contract and the pure statement. Conditions: none. -/
import Derived.Test.YtllkimgecapbgaaRows
import Derived.Test.YtllkimgecapbgaaOpen
import Derived.Test.YtllkimgecapbgaaStmFnExactMayUse
import Derived.Test.YtllkimgecapbgaaPureFnExactMayUse
import Derived.WalkKit
import Derived.ProofKit
import Derived.OpenShut
import Derived.ShutString
import Derived.ChangeOld
import Derived.Below
import Derived.SizedLaws
import Derived.Carry
namespace Go.Proofs.Ytllkimgecapbgaa.PFnExactMayUse
open Go.ChangeShapes Go.WideShapes Go.ChangeAt Go.RowKit Go.Proofs.Ytllkimgecapbgaa.Op Go.Proofs.YtllkimgecapbgaaW.PrintWords
set_option linter.unusedVariables false
theorem own : ownKnob Try.prog.godebug = none := by kernel_rfl
theorem laidOut : laidOutB Try.prog = true := by kernel_rfl
theorem ok55 : Opens Try.prog 55 k55 G55 := opens_mono (opens_struct (P := Try.prog) (t := 55) (fun x : S55 => (x.f0, x.f1)) (fun x => ⟨x.1, x.2⟩) (fun _ => rfl) Try.underlying55 (by kernel_rfl) (fields_cons rfl (by kernel_rfl) (opens_string Try.underlying9) (fields_one rfl (by kernel_rfl) (opens_int (k := .i64) Try.underlying3)))) (fun _ h => h)
set_option maxRecDepth 100000 in
theorem lifted (os : Os) (started : os.Started) (H : Type) (enc : TypeId × Value → H) :
    ReturnsInHanded {} Try.checked os 6 .any (Rows.fnExactMayUseSpec.pre6 enc Try.prog Try.f6 Rows.fnExactMayUseRow.domain false) (Rows.fnExactMayUseSpec.post enc Try.prog Try.f6 false true false false) := by
  refine returnsInHanded_of_change_sized (C := Try.checked) own started (by kernel_rfl) Try.func6
    (ChangeSpec.witness6 (enc := enc) (C := Try.checked) false ⟨#[], #[.slice none 0 0, .string ByteArray.empty, .int .i64 0, .int .i64 0], []⟩ 8 (by kernel_rfl) (by kernel_rfl) (by kernel_rfl) (by kernel_rfl)) ?_
  intro W base args ds gs before hval0 hW hcnd hsz0 _
  have hval : ∀ (j : Nat) t v, Try.f6.params[j]? = some t → args[j]? = some v → Value.okWide Try.prog W .any base t v := hval0
  have hW' := hW
  obtain ⟨p, q, hA0, hV, rfl, hfz, hnd⟩ := hW
  have hA : DataW.TrodAll enc Try.prog W 0 (fun _ => true) true Try.f6.params.toList args.toList ds p := hA0
  rw [Try.params6] at hA hval
  obtain ⟨v0, vs0, d0, ds0, p0, q0, hargs, rfl, rfl, h0, r0⟩ := trodAll_cons hA
  obtain ⟨v1, vs1, d1, ds1, p1, q1, rfl, rfl, rfl, h1, r1⟩ := trodAll_cons r0
  obtain ⟨v2, vs2, d2, ds2, p2, q2, rfl, rfl, rfl, h2, r2⟩ := trodAll_cons r1
  obtain ⟨v3, vs3, d3, ds3, p3, q3, rfl, rfl, rfl, h3, r3⟩ := trodAll_cons r2
  obtain ⟨rfl, rfl, rfl⟩ := trodAll_nil r3
  obtain rfl : args = #[v0, v1, v2, v3] := by cases args; simp_all
  obtain ⟨rfl, rfl⟩ := trodVars_none hV
  have b0 := h0
  have lt0 : ∀ x ∈ p0, x.block < W.heap.size := by obtain ⟨m, hm⟩ := b0; exact DataW.trod_lt m _ _ _ hm
  obtain ⟨fu0, hf0⟩ := h0
  obtain ⟨x0, hK0, hG0⟩ := (opens_slice Try.underlying29 (by kernel_rfl) ok55) H enc W 0 _ _ _ _ _ hf0
  obtain ⟨a0, len0, cap0, rfl⟩ := okWide_slice Try.underlying29 (hval 0 29 v0 rfl rfl)
  obtain ⟨A0, c0, hcs0, hc0, hC0⟩ := hK0
  have hcs02 : [Value.slice a0 len0 cap0] = [Value.slice A0 x0.length c0] := hcs0
  injection hcs02 with hcs03 _
  injection hcs03 with ea0 el0 ec0
  subst ea0
  subst ec0
  subst el0
  have b1 := h1
  have lt1 : ∀ x ∈ p1, x.block < W.heap.size := by obtain ⟨m, hm⟩ := b1; exact DataW.trod_lt m _ _ _ hm
  obtain ⟨fu1, hf1⟩ := h1
  obtain ⟨x1, hK1, hG1⟩ := (opens_string Try.underlying9) H enc W 0 _ _ _ _ _ hf1
  obtain ⟨y1, rfl, hd1, hp1, _⟩ := Go.ChangeMaps.open_string Try.underlying9 (hval 1 9 v1 rfl rfl) b1
  obtain rfl : x1 = y1 := by have z : [_] = [_] := hK1; injection z with z1 _; injection z1 with z2; exact z2.symm
  have b2 := h2
  have lt2 : ∀ x ∈ p2, x.block < W.heap.size := by obtain ⟨m, hm⟩ := b2; exact DataW.trod_lt m _ _ _ hm
  obtain ⟨fu2, hf2⟩ := h2
  obtain ⟨x2, hK2, hG2⟩ := (opens_int (k := .i64) Try.underlying3) H enc W 0 _ _ _ _ _ hf2
  obtain ⟨y2, rfl, hd2, hp2, _⟩ := open_int Try.underlying3 (hval 2 3 v2 rfl rfl) b2
  obtain rfl : x2 = y2 := by have z : [_] = [_] := hK2; injection z with z1 _; injection z1 with _ z2; exact z2.symm
  have b3 := h3
  have lt3 : ∀ x ∈ p3, x.block < W.heap.size := by obtain ⟨m, hm⟩ := b3; exact DataW.trod_lt m _ _ _ hm
  obtain ⟨fu3, hf3⟩ := h3
  obtain ⟨x3, hK3, hG3⟩ := (opens_int (k := .i64) Try.underlying3) H enc W 0 _ _ _ _ _ hf3
  obtain ⟨y3, rfl, hd3, hp3, _⟩ := open_int Try.underlying3 (hval 3 3 v3 rfl rfl) b3
  obtain rfl : x3 = y3 := by have z : [_] = [_] := hK3; injection z with z1 _; injection z1 with _ z2; exact z2.symm
  clear hA0 hval0 hsz0
  obtain ⟨k, hk⟩ := Proved.FnExactMayUse x0 x1 x2 x3 hG0 hG1 hG2 hG3
  refine Calls.mono (laws_FnExactMayUse.calls (h := hk) (hr0 := hC0) (hc0 := hc0) (w := W) _ _ _ _ _ _ _ _) fun e W' ⟨he, bel0⟩ => ?_
  have bel : Below W.heap.size W W' := bel0
  subst he
  exact ⟨_, rfl, _, _, _, [], _, [], hW', trodAll_mk1 (shut_bool Try.underlying4 _), (trodAll_cons_mk (Below.trod laidOut (by kernel_rfl) (of_decide_eq_true (by kernel_rfl)) b0 bel lt0) (trodAll_cons_mk (Below.trod laidOut (by kernel_rfl) (of_decide_eq_true (by kernel_rfl)) b1 bel lt1) (trodAll_cons_mk (Below.trod laidOut (by kernel_rfl) (of_decide_eq_true (by kernel_rfl)) b2 bel lt2) (trodAll_cons_mk (Below.trod laidOut (by kernel_rfl) (of_decide_eq_true (by kernel_rfl)) b3 bel lt3) trodAll_mk0)))), rfl, bel.frame _, fun h => by cases h⟩
theorem over : Rows.fnExactMayUseRow.holds Try.pinned (OpenSpec.ofChange Rows.fnExactMayUseSpec) :=
  OpenClaim.holds_of_wide 6 Try.f6 rfl rfl rfl rfl rfl rfl rfl ⟨rfl, rfl, rfl, rfl, rfl⟩ rfl rfl rfl rfl rfl (by kernel_rfl) Try.func6 (by kernel_rfl)
    (of_decide_eq_true (by kernel_rfl)) (by unfold Func.isWrapper; first | (rw [if_pos (by decide +kernel)]; kernel_rfl) | (rw [if_neg (by decide +kernel)]; exact ⟨rfl, rfl⟩))
    (fun os started H enc _ => lifted os started H enc)
end Go.Proofs.Ytllkimgecapbgaa.PFnExactMayUse
namespace Go.Proofs.Ytllkimgecapbgaa
theorem fnExactMayUse_holds : Rows.FnExactMayUseSaid := PFnExactMayUse.over
#print axioms fnExactMayUse_holds
end Go.Proofs.Ytllkimgecapbgaa
