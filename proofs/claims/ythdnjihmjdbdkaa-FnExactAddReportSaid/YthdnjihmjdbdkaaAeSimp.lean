/- Words for reading the abstract evaluator: what each plain operation gives. Conditions: none. -/
import Derived.Test.YthdnjihmjdbdkaaAeIn
import Derived.IntWalk
namespace Go.Proofs.Ythdnjihmjdbdkaa.AE
open Go Go.RowKit
set_option linter.unusedVariables false
set_option linter.unusedSimpArgs false
theorem clo_bool (b : Bool) : clo (some (.bool b)) = some (.bool b) := rfl
theorem clo_int (k : IntKind) (n : Int) : clo (some (.int k n)) = some (.int k n) := rfl
theorem clo_string (s : ByteArray) : clo (some (.string s)) = some (.string s) := rfl
theorem toList_eq {s u : ByteArray} : (s.toList == u.toList) = decide (s = u) := by
  by_cases h : s = u
  · subst h; simp
  · have : s.toList ≠ u.toList := fun e => h (by
      have e2 : s.data.toList = u.data.toList := by rw [← ByteArray.toList_eq, ← ByteArray.toList_eq]; exact e
      have e3 : s.data = u.data := Array.toList_inj.1 e2
      cases s; cases u; exact congrArg _ e3)
    simp [h, this]
section
variable (P : Program) (t : TypeId) (xo yo : Operand) (k : IntKind) (a b : Int) (s u : ByteArray) (c d : Bool)
theorem op_lss : abop P .lss t xo yo (.int k a) (.int k b) = some (.bool (decide (a < b))) := by simp [abop, aeq, abin, closedV, closed1, eqGuard, binOp, prun_pure, Op.intCmp, clo_bool]
theorem op_leq : abop P .leq t xo yo (.int k a) (.int k b) = some (.bool (decide (a ≤ b))) := by simp [abop, aeq, abin, closedV, closed1, eqGuard, binOp, prun_pure, Op.intCmp, clo_bool]
theorem op_gtr : abop P .gtr t xo yo (.int k a) (.int k b) = some (.bool (decide (b < a))) := by simp [abop, aeq, abin, closedV, closed1, eqGuard, binOp, prun_pure, Op.intCmp, clo_bool]
theorem op_geq : abop P .geq t xo yo (.int k a) (.int k b) = some (.bool (decide (b ≤ a))) := by simp [abop, aeq, abin, closedV, closed1, eqGuard, binOp, prun_pure, Op.intCmp, clo_bool]
theorem op_eql : abop P .eql t xo yo (.int k a) (.int k b) = some (.bool (decide (a = b))) := by simp [abop, aeq, abin, closedV, closed1, eqGuard, binOp, prun_pure, Op.intCmp, clo_bool]; rfl
theorem op_neq : abop P .neq t xo yo (.int k a) (.int k b) = some (.bool (!decide (a = b))) := by simp [abop, aeq, abin, closedV, closed1, eqGuard, binOp, prun_pure, Op.intCmp, clo_bool]; rfl
theorem op_add : abop P .add t xo yo (.int k a) (.int k b) = some (.int k (k.wrap (a + b))) := by simp [abop, aeq, abin, closedV, closed1, eqGuard, binOp, prun_pure, Op.intArith, clo_int]
theorem op_sub : abop P .sub t xo yo (.int k a) (.int k b) = some (.int k (k.wrap (a - b))) := by simp [abop, aeq, abin, closedV, closed1, eqGuard, binOp, prun_pure, Op.intArith, clo_int]
theorem op_mul : abop P .mul t xo yo (.int k a) (.int k b) = some (.int k (k.wrap (a * b))) := by simp [abop, aeq, abin, closedV, closed1, eqGuard, binOp, prun_pure, Op.intArith, clo_int]
theorem op_quo (h : b ≠ 0) : abop P .quo t xo yo (.int k a) (.int k b) = some (.int k (k.wrap (a.tdiv b))) := by simp [abop, aeq, abin, closedV, closed1, eqGuard, binOp, prun_pure, Op.intDiv, clo_int, h]
theorem op_rem (h : b ≠ 0) : abop P .rem t xo yo (.int k a) (.int k b) = some (.int k (a.tmod b)) := by simp [abop, aeq, abin, closedV, closed1, eqGuard, binOp, prun_pure, Op.intDiv, clo_int, h]
theorem op_seql : abop P .eql t xo yo (.string s) (.string u) = some (.bool (decide (s = u))) := by simp only [abop, aeq, abin, closedV, closed1, eqGuard, binOp, prun_pure, Op.stringOp, toList_eq]; rfl
theorem op_sneq : abop P .neq t xo yo (.string s) (.string u) = some (.bool (!decide (s = u))) := by simp only [abop, aeq, abin, closedV, closed1, eqGuard, binOp, prun_pure, Op.stringOp, toList_eq]; rfl
theorem op_slss : abop P .lss t xo yo (.string s) (.string u) = some (.bool (Op.bytesLess s.toList u.toList)) := by simp only [abop, aeq, abin, closedV, closed1, eqGuard, binOp, prun_pure, Op.stringOp]; rfl
theorem op_sgtr : abop P .gtr t xo yo (.string s) (.string u) = some (.bool (!(Op.bytesLess s.toList u.toList || decide (s = u)))) := by simp only [abop, aeq, abin, closedV, closed1, eqGuard, binOp, prun_pure, Op.stringOp, toList_eq]; rfl
theorem op_sleq : abop P .leq t xo yo (.string s) (.string u) = some (.bool (Op.bytesLess s.toList u.toList || decide (s = u))) := by simp only [abop, aeq, abin, closedV, closed1, eqGuard, binOp, prun_pure, Op.stringOp, toList_eq]; rfl
theorem op_sgeq : abop P .geq t xo yo (.string s) (.string u) = some (.bool (!Op.bytesLess s.toList u.toList)) := by simp only [abop, aeq, abin, closedV, closed1, eqGuard, binOp, prun_pure, Op.stringOp]; rfl
theorem op_sadd (h : s.size + u.size ≤ 9223372036854775807) : abop P .add t xo yo (.string s) (.string u) = some (.string (s ++ u)) := by
  have h2 : ¬ ((s.size + u.size : Nat) : Int) > IntKind.i64.max := by
    have : IntKind.i64.max = 9223372036854775807 := by decide
    rw [this]; omega
  simp only [abop, aeq, abin, closedV, closed1, eqGuard, binOp, Op.stringOp, if_neg h2]; rfl
theorem op_beql (h : P.underlying t = some .bool) : abop P .eql t xo yo (.bool c) (.bool d) = some (.bool (c == d)) := by simp [abop, aeq, h]
theorem op_bneq (h : P.underlying t = some .bool) : abop P .neq t xo yo (.bool c) (.bool d) = some (.bool (!(c == d))) := by simp [abop, aeq, h]
theorem op_not : aun P .not (.bool c) = some (.bool !c) := rfl
theorem op_neg : aun P .neg (.int k a) = some (.int k (k.wrap (0 - a))) := rfl
theorem op_max : amm P true [.int k a, .int k b] = some (.int k (if b > a then b else a)) := rfl
theorem op_min : amm P false [.int k a, .int k b] = some (.int k (if b < a then b else a)) := rfl
end
end Go.Proofs.Ythdnjihmjdbdkaa.AE
