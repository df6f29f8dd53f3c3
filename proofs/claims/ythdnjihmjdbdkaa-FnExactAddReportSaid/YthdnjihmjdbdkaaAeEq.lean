/- '==' of structs of plain cells. Conditions: none. -/
import Derived.Test.YthdnjihmjdbdkaaAeSl
namespace Go.Proofs.Ythdnjihmjdbdkaa.AE
open Go Go.RowKit
set_option linter.unusedVariables false
set_option linter.unusedSimpArgs false
section
variable {P : Program} {t : TypeId} {xs ys : Array Value}
theorem eqf_nil {f : TypeId → Value → Value → Option Bool} : eqf f P xs ys [] = some true := rfl
theorem eqf_cons {f : TypeId → Value → Value → Option Bool} {fd : Field} {fs : List Field} {a b : Value} {q r : Bool} (hn : (fd.name == "_") = false) (ha : apart P fd.type xs fd.offset = some a) (hb : apart P fd.type ys fd.offset = some b) (hq : f fd.type a b = some q) (hr : eqf f P xs ys fs = some r) : eqf f P xs ys (fd :: fs) = some (q && r) := by
  have hn' : ¬ fd.name = "_" := by simpa using hn
  simp only [eqf, hn', if_false, ha, hb, hq]
  cases q
  · rfl
  · simpa using hr
theorem eqv_int {k : IntKind} {a b : Int} (n : Nat) (hu : P.underlying t = some (.int k)) : eqv P (n + 1) t (.int k a) (.int k b) = some (decide (a = b)) := by
  simp only [eqv, hu, if_true]
  rfl
theorem eqv_str {a b : ByteArray} (n : Nat) (hu : P.underlying t = some .string) : eqv P (n + 1) t (.string a) (.string b) = some (decide (a = b)) := by
  simp only [eqv, hu, toList_eq]
theorem eqv_bool {a b : Bool} (n : Nat) (hu : P.underlying t = some .bool) : eqv P (n + 1) t (.bool a) (.bool b) = some (decide (a = b)) := by
  simp only [eqv, hu]
  cases a <;> cases b <;> rfl
theorem eqv_struct {fs : Array Field} {l : List Field} {q : Bool} (n : Nat) (hu : P.underlying t = some (.struct fs)) (hl : fs.toList = l) (hs : P.stoodInHeld t = false) (h : eqf (eqv P n) P xs ys l = some q) : eqv P (n + 1) t (.agg xs) (.agg ys) = some q := by
  subst hl
  simp only [eqv, hu, hs, Bool.false_eq_true, if_false, h]
theorem apart_one {o : Nat} {v : Value} (hst : isStruct P t = some false) (hv : xs[o]? = some v) : apart P t xs o = some v := by
  simp [apart, hst, hv]
theorem abop_eql {xo yo : Operand} {q : Bool} (hx : closedV (.agg xs) = true) (hy : closedV (.agg ys) = true) (hg : P.eqGuardType P.depth t = false) (h : eqv P 20 t (.agg xs) (.agg ys) = some q) : abop P .eql t xo yo (.agg xs) (.agg ys) = some (.bool q) := by
  simp only [abop, aeq, hx, hy, hg, h, Bool.not_false, Bool.and_self, if_true, Option.map_some]
theorem abop_neq {xo yo : Operand} {q : Bool} (hx : closedV (.agg xs) = true) (hy : closedV (.agg ys) = true) (hg : P.eqGuardType P.depth t = false) (h : eqv P 20 t (.agg xs) (.agg ys) = some q) : abop P .neq t xo yo (.agg xs) (.agg ys) = some (.bool (!q)) := by
  simp only [abop, aeq, hx, hy, hg, h, Bool.not_false, Bool.and_self, if_true, Option.map_some]
end
end Go.Proofs.Ythdnjihmjdbdkaa.AE
