/-
  No cell of these rows narrows 'for every input' (looked for: loops, veiled, ifaces, maps, wideKeys, modest, calm, conditions, laid).
  DERIVED. THE GIVEN ROWS OF THIS SEAT. 6 by the template 'for every input the law returns true; each argument reads behind the call as it read before'; 0 by the template 'total and deterministic' (their statements: YtllkimgecapbgaaTotals.lean).
  GIVEN WITH THE SEED: the statements are not yours to turn. If you find one false, say at which input.
  Laid BY PROGRAM, IN A SANDBOX (cutbox-rows.mjs): the forced cells as the released guide's own fill.sh prints them over the translation a175a654705ab9f4… (all of the seat's roots in one cut). By AI agents, Wed Nov 11 2026. No macro, syntax, notation, axiom, sorry.
-/
import Derived.Test.YtllkimgecapbgaaChecked
import GoSem.Claim
import GoSem.ClaimJoined
import GoSem.ClaimMapViews
import Derived.JoinedTies
import Derived.KernelRfl
namespace Go.Proofs.Ytllkimgecapbgaa
/- THE CELL 'sum', in the pinned program and in every row, IS THE sha256 OF THE DUMP (.gsa) THAT YtllkimgecapbgaaProg.lean LOADS. Nothing in Lean hashes anything: it is a label: what it is worth is what the hold of that sum in a sandbox is worth. -/
noncomputable def Try.pinned : Pinned := { name := "ytllkimgecapbgaa", sum := "a175a654705ab9f4df245bf1019698e9c8872a3fbb778da58ea7cfcba0ef3945", checked := Try.checked }
namespace Rows
def none {H : Type} : Left H := { results := [], args := [] }

/-- 'laws.FnExactIsLater': WHATEVER THE INPUT: true; the input reads as it did. -/
def fnExactIsLaterSpec : ChangeSpec := { name := "fnExactIsLater", fn := fun _ => fun
  | [d1, d2] => { results := [.lit (.bool true)], args := [d1, d2] }
  | _ => none }
def fnExactIsLaterRow : OpenClaim := { program := "ytllkimgecapbgaa", sum := "a175a654705ab9f4df245bf1019698e9c8872a3fbb778da58ea7cfcba0ef3945", func := "loop.example/g03003/laws.FnExactIsLater", spec := "fnExactIsLater", apart := false }
def FnExactIsLaterSaid : Prop := fnExactIsLaterRow.holds Try.pinned (OpenSpec.ofChange fnExactIsLaterSpec)

/-- ITS FALSE NEIGHBOUR: 'it returns false'. Refute it at one input. -/
def fnExactIsLaterWrong : ChangeSpec := { name := "fnExactIsLater", fn := fun _ => fun
  | [d1, d2] => { results := [.lit (.bool false)], args := [d1, d2] }
  | _ => none }
def FnExactIsLaterWrongFalsely : Prop := fnExactIsLaterRow.holds Try.pinned (OpenSpec.ofChange fnExactIsLaterWrong)

/-- 'laws.FnExactLastUse': WHATEVER THE INPUT: true; the input reads as it did. -/
def fnExactLastUseSpec : ChangeSpec := { name := "fnExactLastUse", fn := fun _ => fun
  | [d1, d2] => { results := [.lit (.bool true)], args := [d1, d2] }
  | _ => none }
def fnExactLastUseRow : OpenClaim := { program := "ytllkimgecapbgaa", sum := "a175a654705ab9f4df245bf1019698e9c8872a3fbb778da58ea7cfcba0ef3945", func := "loop.example/g03003/laws.FnExactLastUse", spec := "fnExactLastUse", apart := false }
def FnExactLastUseSaid : Prop := fnExactLastUseRow.holds Try.pinned (OpenSpec.ofChange fnExactLastUseSpec)

/-- ITS FALSE NEIGHBOUR: 'it returns false'. Refute it at one input. -/
def fnExactLastUseWrong : ChangeSpec := { name := "fnExactLastUse", fn := fun _ => fun
  | [d1, d2] => { results := [.lit (.bool false)], args := [d1, d2] }
  | _ => none }
def FnExactLastUseWrongFalsely : Prop := fnExactLastUseRow.holds Try.pinned (OpenSpec.ofChange fnExactLastUseWrong)

/-- 'laws.FnExactEqualNotes': WHATEVER THE INPUT: true; the input reads as it did. -/
def fnExactEqualNotesSpec : ChangeSpec := { name := "fnExactEqualNotes", fn := fun _ => fun
  | [d1, d2] => { results := [.lit (.bool true)], args := [d1, d2] }
  | _ => none }
def fnExactEqualNotesRow : OpenClaim := { program := "ytllkimgecapbgaa", sum := "a175a654705ab9f4df245bf1019698e9c8872a3fbb778da58ea7cfcba0ef3945", func := "loop.example/g03003/laws.FnExactEqualNotes", spec := "fnExactEqualNotes", apart := false }
def FnExactEqualNotesSaid : Prop := fnExactEqualNotesRow.holds Try.pinned (OpenSpec.ofChange fnExactEqualNotesSpec)

/-- ITS FALSE NEIGHBOUR: 'it returns false'. Refute it at one input. -/
def fnExactEqualNotesWrong : ChangeSpec := { name := "fnExactEqualNotes", fn := fun _ => fun
  | [d1, d2] => { results := [.lit (.bool false)], args := [d1, d2] }
  | _ => none }
def FnExactEqualNotesWrongFalsely : Prop := fnExactEqualNotesRow.holds Try.pinned (OpenSpec.ofChange fnExactEqualNotesWrong)

/-- 'laws.FnExactMayUse': WHATEVER THE INPUT: true; the input reads as it did. -/
def fnExactMayUseSpec : ChangeSpec := { name := "fnExactMayUse", fn := fun _ => fun
  | [d1, d2, d3, d4] => { results := [.lit (.bool true)], args := [d1, d2, d3, d4] }
  | _ => none }
def fnExactMayUseRow : OpenClaim := { program := "ytllkimgecapbgaa", sum := "a175a654705ab9f4df245bf1019698e9c8872a3fbb778da58ea7cfcba0ef3945", func := "loop.example/g03003/laws.FnExactMayUse", spec := "fnExactMayUse", apart := false }
def FnExactMayUseSaid : Prop := fnExactMayUseRow.holds Try.pinned (OpenSpec.ofChange fnExactMayUseSpec)

/-- ITS FALSE NEIGHBOUR: 'it returns false'. Refute it at one input. -/
def fnExactMayUseWrong : ChangeSpec := { name := "fnExactMayUse", fn := fun _ => fun
  | [d1, d2, d3, d4] => { results := [.lit (.bool false)], args := [d1, d2, d3, d4] }
  | _ => none }
def FnExactMayUseWrongFalsely : Prop := fnExactMayUseRow.holds Try.pinned (OpenSpec.ofChange fnExactMayUseWrong)

/-- 'laws.FnExactCountKind': WHATEVER THE INPUT: true; the input reads as it did. -/
def fnExactCountKindSpec : ChangeSpec := { name := "fnExactCountKind", fn := fun _ => fun
  | [d1, d2, d3] => { results := [.lit (.bool true)], args := [d1, d2, d3] }
  | _ => none }
def fnExactCountKindRow : OpenClaim := { program := "ytllkimgecapbgaa", sum := "a175a654705ab9f4df245bf1019698e9c8872a3fbb778da58ea7cfcba0ef3945", func := "loop.example/g03003/laws.FnExactCountKind", spec := "fnExactCountKind", unfollowed := true, recurses := true, apart := false }
def FnExactCountKindSaid : Prop := fnExactCountKindRow.holds Try.pinned (OpenSpec.ofChange fnExactCountKindSpec)

/-- ITS FALSE NEIGHBOUR: 'it returns false'. Refute it at one input. -/
def fnExactCountKindWrong : ChangeSpec := { name := "fnExactCountKind", fn := fun _ => fun
  | [d1, d2, d3] => { results := [.lit (.bool false)], args := [d1, d2, d3] }
  | _ => none }
def FnExactCountKindWrongFalsely : Prop := fnExactCountKindRow.holds Try.pinned (OpenSpec.ofChange fnExactCountKindWrong)

/-- 'laws.FnExactAreNotes': WHATEVER THE INPUT: true; the input reads as it did. -/
def fnExactAreNotesSpec : ChangeSpec := { name := "fnExactAreNotes", fn := fun _ => fun
  | [d] => { results := [.lit (.bool true)], args := [d] }
  | _ => none }
def fnExactAreNotesRow : OpenClaim := { program := "ytllkimgecapbgaa", sum := "a175a654705ab9f4df245bf1019698e9c8872a3fbb778da58ea7cfcba0ef3945", func := "loop.example/g03003/laws.FnExactAreNotes", spec := "fnExactAreNotes", apart := false }
def FnExactAreNotesSaid : Prop := fnExactAreNotesRow.holds Try.pinned (OpenSpec.ofChange fnExactAreNotesSpec)

/-- ITS FALSE NEIGHBOUR: 'it returns false'. Refute it at one input. -/
def fnExactAreNotesWrong : ChangeSpec := { name := "fnExactAreNotes", fn := fun _ => fun
  | [d] => { results := [.lit (.bool false)], args := [d] }
  | _ => none }
def FnExactAreNotesWrongFalsely : Prop := fnExactAreNotesRow.holds Try.pinned (OpenSpec.ofChange fnExactAreNotesWrong)

/- THE SECOND FORM. 'bulk': how many values and letters a reading holds, each counted each time it is reached (what is shared counts as often as it is met; a slice's spare places count too). A statement '..UptoSaid' is the law's where the arguments, and the package variables that the reading takes, are together of bulk at most 1048576: NARROWER than '..Said'. Prove '..Said' where nothing that the law and all that it calls make is longer than what came in: it says more and counts as full. Else prove '..UptoSaid'. A law counts once. -/
mutual
def uptoBulk {H : Type} : DataW H → Nat
  | .lit (.string bytes) => bytes.length + 1
  | .lit _ => 1
  | .nil => 1
  | .ptr d => uptoBulk d + 1
  | .slice elems spare => uptoBulkAll elems + uptoBulkAll spare + 1
  | .agg parts => uptoBulkAll parts + 1
  | .iface _ d => uptoBulk d + 1
  | .map entries => uptoBulkEntries entries + 1
  | .held _ => 1
def uptoBulkAll {H : Type} : List (DataW H) → Nat
  | [] => 0
  | d :: r => uptoBulk d + uptoBulkAll r
def uptoBulkEntries {H : Type} : List (Lit × DataW H) → Nat
  | [] => 0
  | x :: r => uptoBulkEntry x + uptoBulkEntries r
def uptoBulkEntry {H : Type} : Lit × DataW H → Nat
  | (.string bytes, d) => bytes.length + uptoBulk d + 1
  | (_, d) => uptoBulk d + 1
 end
def uptoSmall : (H : Type) → List (DataW H) → Bool := fun _ ds => decide (uptoBulkAll ds ≤ 1048576)
def OpenSpec.upto (s : _root_.Go.ChangeSpec) : _root_.Go.OpenSpec := { _root_.Go.OpenSpec.ofChange s with cond := some uptoSmall }

/-- 'laws.FnExactIsLater', WHERE WHAT IT READS IS OF BULK AT MOST 1048576: true; the input reads as it did. -/
def fnExactIsLaterUptoRow : OpenClaim := { program := "ytllkimgecapbgaa", sum := "a175a654705ab9f4df245bf1019698e9c8872a3fbb778da58ea7cfcba0ef3945", func := "loop.example/g03003/laws.FnExactIsLater", spec := "fnExactIsLater", apart := false, narrowed := true }
def FnExactIsLaterUptoSaid : Prop := fnExactIsLaterUptoRow.holds Try.pinned (OpenSpec.upto fnExactIsLaterSpec)

/-- 'laws.FnExactLastUse', WHERE WHAT IT READS IS OF BULK AT MOST 1048576: true; the input reads as it did. -/
def fnExactLastUseUptoRow : OpenClaim := { program := "ytllkimgecapbgaa", sum := "a175a654705ab9f4df245bf1019698e9c8872a3fbb778da58ea7cfcba0ef3945", func := "loop.example/g03003/laws.FnExactLastUse", spec := "fnExactLastUse", apart := false, narrowed := true }
def FnExactLastUseUptoSaid : Prop := fnExactLastUseUptoRow.holds Try.pinned (OpenSpec.upto fnExactLastUseSpec)

/-- 'laws.FnExactEqualNotes', WHERE WHAT IT READS IS OF BULK AT MOST 1048576: true; the input reads as it did. -/
def fnExactEqualNotesUptoRow : OpenClaim := { program := "ytllkimgecapbgaa", sum := "a175a654705ab9f4df245bf1019698e9c8872a3fbb778da58ea7cfcba0ef3945", func := "loop.example/g03003/laws.FnExactEqualNotes", spec := "fnExactEqualNotes", apart := false, narrowed := true }
def FnExactEqualNotesUptoSaid : Prop := fnExactEqualNotesUptoRow.holds Try.pinned (OpenSpec.upto fnExactEqualNotesSpec)

/-- 'laws.FnExactMayUse', WHERE WHAT IT READS IS OF BULK AT MOST 1048576: true; the input reads as it did. -/
def fnExactMayUseUptoRow : OpenClaim := { program := "ytllkimgecapbgaa", sum := "a175a654705ab9f4df245bf1019698e9c8872a3fbb778da58ea7cfcba0ef3945", func := "loop.example/g03003/laws.FnExactMayUse", spec := "fnExactMayUse", apart := false, narrowed := true }
def FnExactMayUseUptoSaid : Prop := fnExactMayUseUptoRow.holds Try.pinned (OpenSpec.upto fnExactMayUseSpec)

/-- 'laws.FnExactCountKind', WHERE WHAT IT READS IS OF BULK AT MOST 1048576: true; the input reads as it did. -/
def fnExactCountKindUptoRow : OpenClaim := { program := "ytllkimgecapbgaa", sum := "a175a654705ab9f4df245bf1019698e9c8872a3fbb778da58ea7cfcba0ef3945", func := "loop.example/g03003/laws.FnExactCountKind", spec := "fnExactCountKind", unfollowed := true, recurses := true, apart := false, narrowed := true }
def FnExactCountKindUptoSaid : Prop := fnExactCountKindUptoRow.holds Try.pinned (OpenSpec.upto fnExactCountKindSpec)

/-- 'laws.FnExactAreNotes', WHERE WHAT IT READS IS OF BULK AT MOST 1048576: true; the input reads as it did. -/
def fnExactAreNotesUptoRow : OpenClaim := { program := "ytllkimgecapbgaa", sum := "a175a654705ab9f4df245bf1019698e9c8872a3fbb778da58ea7cfcba0ef3945", func := "loop.example/g03003/laws.FnExactAreNotes", spec := "fnExactAreNotes", apart := false, narrowed := true }
def FnExactAreNotesUptoSaid : Prop := fnExactAreNotesUptoRow.holds Try.pinned (OpenSpec.upto fnExactAreNotesSpec)

end Rows
end Go.Proofs.Ytllkimgecapbgaa
