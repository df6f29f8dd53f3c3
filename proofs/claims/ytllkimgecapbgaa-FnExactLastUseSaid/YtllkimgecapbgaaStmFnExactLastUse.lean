/- The pure statement that is left of the law FnExactLastUse: for all arguments that can come in, the printed law answers true. -/
import Derived.Test.YtllkimgecapbgaaPFnExactLastUsex
namespace Go.Proofs.Ytllkimgecapbgaa.PFnExactLastUse
open Go.RowKit Go.Proofs.YtllkimgecapbgaaW.PrintWords Go.Proofs.YtllkimgecapbgaaW.PrintLast Go.Proofs.YtllkimgecapbgaaW.PrintMore

/-- What is known of a value of type 55 that came in. -/
def G55 (x : S55) : Prop := (x.f0.size ≤ maxLen) ∧ ((Lit.int .i64 x.f1).wf = true)
/-- What is left of the law. -/
def Pure : Prop := ∀ (x0 : List (S55)) (x1 : ByteArray), (x0.length ≤ maxLen ∧ ∀ y ∈ x0, G55 y) → (x1.size ≤ maxLen) → ∃ k, laws_FnExactLastUse.f k x0 x1 = some true
end Go.Proofs.Ytllkimgecapbgaa.PFnExactLastUse
