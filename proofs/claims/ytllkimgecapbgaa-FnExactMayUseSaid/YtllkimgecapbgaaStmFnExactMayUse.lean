/- The pure statement that is left of the law FnExactMayUse: for all arguments that can come in, the printed law answers true. -/
import Derived.Test.YtllkimgecapbgaaPFnExactMayUsex
namespace Go.Proofs.Ytllkimgecapbgaa.PFnExactMayUse
open Go.RowKit Go.Proofs.YtllkimgecapbgaaW.PrintWords Go.Proofs.YtllkimgecapbgaaW.PrintLast Go.Proofs.YtllkimgecapbgaaW.PrintMore

/-- What is known of a value of type 55 that came in. -/
def G55 (x : S55) : Prop := (x.f0.size ≤ maxLen) ∧ ((Lit.int .i64 x.f1).wf = true)
/-- What is left of the law. -/
def Pure : Prop := ∀ (x0 : List (S55)) (x1 : ByteArray) (x2 : Int) (x3 : Int), (x0.length ≤ maxLen ∧ ∀ y ∈ x0, G55 y) → (x1.size ≤ maxLen) → ((Lit.int .i64 x2).wf = true) → ((Lit.int .i64 x3).wf = true) → ∃ k, laws_FnExactMayUse.f k x0 x1 x2 x3 = some true
end Go.Proofs.Ytllkimgecapbgaa.PFnExactMayUse
