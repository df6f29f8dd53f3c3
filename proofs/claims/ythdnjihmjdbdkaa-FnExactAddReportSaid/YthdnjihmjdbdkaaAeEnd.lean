/- From the abstract evaluator's answer at the canonical start to the machine's. Conditions: none. -/
import Derived.Test.YthdnjihmjdbdkaaAeSl
import Derived.Below
namespace Go.Proofs.Ythdnjihmjdbdkaa.AE
open Go Go.RowKit
set_option linter.unusedVariables false
set_option linter.unusedSimpArgs false
/-- An argument, as the evaluator sees it. -/
def absA : Value → Value
  | .agg cs => .agg (cs.map absV)
  | v => absV v
theorem absA_cells (v : Value) : (absA v).cells.toList = v.cells.toList.map absV := by
  cases v with
  | agg cs => simp [absA, Value.cells]
  | slice a n c => cases a <;> rfl
  | _ => rfl
theorem vr_arg {v : Value} (h : ∀ c ∈ v.cells.toList, niceV c = true) : VR rho0 (absA v) v := by
  cases v with
  | agg cs =>
    refine .agg _ _ (by simp) (fun i hi => ?_)
    have hi' : i < cs.size := by simpa using hi
    have h1 := h cs[i] (by simp [Value.cells])
    simpa [Array.getD_eq_getD_getElem?, hi'] using vr_nice h1
  | _ => exact vr_nice (by simpa only [Value.cells, List.toList_toArray, List.mem_singleton, forall_eq] using h)
theorem fr0 (W : World) : Fr 1 (H0 W) := fun t ht => by
  cases hh : H0 W t with
  | none => rfl
  | some x =>
    obtain ⟨b, o, rfl⟩ := H0_some hh
    have := ht.odd (by decide)
    rw [pr_even] at this
    cases this
theorem run_law {P : Program} {W : World} {n : Nat} {f : FuncId} {args : List Value} {args' : Array Value} {b : Bool} (hm : P.follows .mixedOrders = true) (hP : Plain P) (hl : LR rho0 args args'.toList)
    (hc : CallS (acall P n) f args (H0 W) 1 (fun v _ => v = .bool b)) : Calls P f args' W fun e W' => e = .returned (.bool b) ∧ Below W.heap.size W W' := by
  unfold CallS at hc
  obtain ⟨v, h', h1, _, rfl⟩ := hc
  refine Calls.mono (acall_ok hm hP n f args (H0 W) 1 _ h' h1 W.heap.size rho0 W args' hl (rel0 W) (fun t ht => rho0_odd (ht.odd (by decide))) (by decide)) ?_
  rintro e W' ⟨v', ρ', rfl, hs, hv⟩
  cases hv
  refine ⟨rfl, hs.same.1, hs.same.2.1, hs.same.2.2, hs.size, fun k hk => hs.frame k hk ?_⟩
  rintro ⟨t, s, h2, h3, _⟩
  obtain ⟨x, hx⟩ := Option.ne_none_iff_exists'.1 h3
  obtain ⟨b, o, rfl⟩ := H0_some hx
  rw [pr_even] at h2
  cases h2
theorem lr_nil : LR rho0 [] [] := LR.nil _
theorem lr_cons {v v' : Value} {l l' : List Value} (h : VR rho0 v v') (hl : LR rho0 l l') : LR rho0 (v :: l) (v' :: l') := LR.cons h hl
end Go.Proofs.Ythdnjihmjdbdkaa.AE
