/- From a contract over trees to the machine's answer. Conditions: none. -/
import Derived.Test.YthdnjihmjdbdkaaVlBury
namespace Go.Proofs.Ythdnjihmjdbdkaa.AE
open Go Go.RowKit
set_option linter.unusedVariables false
set_option linter.unusedSimpArgs false
theorem absA_slice (a : Option Addr) (n c : Nat) : (absA (.slice a n c)).cells.toList = [absA (.slice a n c)] := by cases a <;> rfl
theorem rk_one {α : Type} {d : AK α} {e : Bool → α → List T} {x : α} {t : T} {h : AH} {v : Value} (hk : RK d e) (he : e false x = [t]) (hr : d.R h x [v]) : R h t v := by
  have h1 := hk h x _ hr
  rw [he] at h1
  exact h1.tail.1
theorem rk_slice {α : Type} {d : AK α} {e : Bool → α → List T} {x : α} {t : T} {h : AH} {a : Option Addr} {n c : Nat} (hk : RK d e) (he : e false x = [t]) (hr : d.R h x (absA (.slice a n c)).cells.toList) : R h t (absA (.slice a n c)) := by
  rw [absA_slice] at hr
  exact rk_one hk he hr
theorem rk_agg {α : Type} {d : AK α} {e : Bool → α → List T} {x : α} {h : AH} {cs : Array Value} (hk : RK d e) (hr : d.R h x (absA (.agg cs)).cells.toList) : R h (.agg (e false x)) (absA (.agg cs)) := by
  have h1 := hk h x _ hr
  refine .agg _ _ (by simpa [Value.cells, absA] using h1.1) (fun i hi => ?_)
  have := h1.2 i hi
  simpa [Value.cells, absA, Array.getD_eq_getD_getElem?, List.getD_eq_getElem?_getD] using this
theorem Pure.bool {call : CallT} {f : FuncId} {ts : List T} {b : Bool} (hp : Pure call f ts (.bool b)) {h : AH} {vs : List Value} (hfr : Fr 1 h) (hr : RL h ts vs) : CallS call f vs h 1 (fun v _ => v = .bool b) := by
  refine (hp h 1 vs hfr hr).mono ?_
  rintro v h' ⟨_, N, hs, _⟩
  cases hs with
  | fz hr => cases hr; rfl
end Go.Proofs.Ythdnjihmjdbdkaa.AE
