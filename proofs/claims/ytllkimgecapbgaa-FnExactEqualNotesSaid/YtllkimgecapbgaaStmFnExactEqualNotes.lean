/- The pure statement that is left of the law FnExactEqualNotes: for all arguments that can come in, the printed law answers true. -/
import Derived.Test.YtllkimgecapbgaaPFnExactEqualNotesx
namespace Go.Proofs.Ytllkimgecapbgaa.PFnExactEqualNotes
open Go.RowKit Go.Proofs.YtllkimgecapbgaaW.PrintWords Go.Proofs.YtllkimgecapbgaaW.PrintLast Go.Proofs.YtllkimgecapbgaaW.PrintMore

/-- What is known of a value of type 23 that came in. -/
def G23 (x : S23) : Prop := ((Lit.int .i64 x.f0).wf = true) ∧ (x.f1.size ≤ maxLen) ∧ ((Lit.int .i64 x.f2).wf = true) ∧ ((Lit.int .i64 x.f3).wf = true)
/-- What is left of the law. -/
def Pure : Prop := ∀ (x0 : List (S23)) (x1 : List (S23)), (x0.length ≤ maxLen ∧ ∀ y ∈ x0, G23 y) → (x1.length ≤ maxLen ∧ ∀ y ∈ x1, G23 y) → ∃ k, laws_FnExactEqualNotes.f k x0 x1 = some true
end Go.Proofs.Ytllkimgecapbgaa.PFnExactEqualNotes
