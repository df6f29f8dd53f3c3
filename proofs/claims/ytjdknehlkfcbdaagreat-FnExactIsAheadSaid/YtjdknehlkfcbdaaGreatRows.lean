/-
  No cell of these rows narrows 'for every input' (looked for: loops, veiled, ifaces, maps, wideKeys, modest, calm, conditions, laid).
  DERIVED. THE GIVEN ROWS OF THIS SEAT. 6 by the template 'for every input the law returns true; each argument reads behind the call as it read before'; 0 by the template 'total and deterministic' (their statements: YtjdknehlkfcbdaaGreatTotals.lean).
  GIVEN WITH THE SEED: the statements are not yours to turn. If you find one false, say at which input.
  Laid BY PROGRAM, IN A SANDBOX (cutbox-rows.mjs): the forced cells as the released guide's own fill.sh prints them over the translation 98b67c67759ade02… (all of the seat's roots in one cut). By AI agents, Wed Nov 11 2026. No macro, syntax, notation, axiom, sorry.
-/
import Derived.Test.YtjdknehlkfcbdaaGreatChecked
import GoSem.Claim
import GoSem.ClaimJoined
import GoSem.ClaimMapViews
import Derived.JoinedTies
import Derived.KernelRfl
namespace Go.Proofs.YtjdknehlkfcbdaaGreat
/- THE CELL 'sum', in the pinned program and in every row, IS THE sha256 OF THE DUMP (.gsa) THAT YtjdknehlkfcbdaaGreatProg.lean LOADS. Nothing in Lean hashes anything: it is a label: what it is worth is what the hold of that sum in a sandbox is worth. -/
noncomputable def Tryz.pinned : Pinned := { name := "ytjdknehlkfcbdaagreat", sum := "98b67c67759ade02cd5e4348e12addae852931fc4137f1e96cccacfa156000f3", checked := Tryz.checked }
namespace Rows
def none {H : Type} : Left H := { results := [], args := [] }

/-- 'laws.FnExactIsIssue': WHATEVER THE INPUT: true; the input reads as it did. -/
def fnExactIsIssueSpec : ChangeSpec := { name := "fnExactIsIssue", fn := fun _ => fun
  | [d] => { results := [.lit (.bool true)], args := [d] }
  | _ => none }
def fnExactIsIssueRow : OpenClaim := { program := "ytjdknehlkfcbdaagreat", sum := "98b67c67759ade02cd5e4348e12addae852931fc4137f1e96cccacfa156000f3", func := "loop.example/g03003/laws.FnExactIsIssue", spec := "fnExactIsIssue", unfollowed := true, recurses := true, apart := false }
def FnExactIsIssueSaid : Prop := fnExactIsIssueRow.holds Tryz.pinned (OpenSpec.ofChange fnExactIsIssueSpec)

/-- ITS FALSE NEIGHBOUR: 'it returns false'. Refute it at one input. -/
def fnExactIsIssueWrong : ChangeSpec := { name := "fnExactIsIssue", fn := fun _ => fun
  | [d] => { results := [.lit (.bool false)], args := [d] }
  | _ => none }
def FnExactIsIssueWrongFalsely : Prop := fnExactIsIssueRow.holds Tryz.pinned (OpenSpec.ofChange fnExactIsIssueWrong)

/-- 'laws.FnExactIsEntry': WHATEVER THE INPUT: true; the input reads as it did. -/
def fnExactIsEntrySpec : ChangeSpec := { name := "fnExactIsEntry", fn := fun _ => fun
  | [d1, d2] => { results := [.lit (.bool true)], args := [d1, d2] }
  | _ => none }
def fnExactIsEntryRow : OpenClaim := { program := "ytjdknehlkfcbdaagreat", sum := "98b67c67759ade02cd5e4348e12addae852931fc4137f1e96cccacfa156000f3", func := "loop.example/g03003/laws.FnExactIsEntry", spec := "fnExactIsEntry", unfollowed := true, recurses := true, apart := false }
def FnExactIsEntrySaid : Prop := fnExactIsEntryRow.holds Tryz.pinned (OpenSpec.ofChange fnExactIsEntrySpec)

/-- ITS FALSE NEIGHBOUR: 'it returns false'. Refute it at one input. -/
def fnExactIsEntryWrong : ChangeSpec := { name := "fnExactIsEntry", fn := fun _ => fun
  | [d1, d2] => { results := [.lit (.bool false)], args := [d1, d2] }
  | _ => none }
def FnExactIsEntryWrongFalsely : Prop := fnExactIsEntryRow.holds Tryz.pinned (OpenSpec.ofChange fnExactIsEntryWrong)

/-- 'laws.FnExactRightOf': WHATEVER THE INPUT: true; the input reads as it did. -/
def fnExactRightOfSpec : ChangeSpec := { name := "fnExactRightOf", fn := fun _ => fun
  | [d1, d2] => { results := [.lit (.bool true)], args := [d1, d2] }
  | _ => none }
def fnExactRightOfRow : OpenClaim := { program := "ytjdknehlkfcbdaagreat", sum := "98b67c67759ade02cd5e4348e12addae852931fc4137f1e96cccacfa156000f3", func := "loop.example/g03003/laws.FnExactRightOf", spec := "fnExactRightOf", unfollowed := true, recurses := true, apart := false }
def FnExactRightOfSaid : Prop := fnExactRightOfRow.holds Tryz.pinned (OpenSpec.ofChange fnExactRightOfSpec)

/-- ITS FALSE NEIGHBOUR: 'it returns false'. Refute it at one input. -/
def fnExactRightOfWrong : ChangeSpec := { name := "fnExactRightOf", fn := fun _ => fun
  | [d1, d2] => { results := [.lit (.bool false)], args := [d1, d2] }
  | _ => none }
def FnExactRightOfWrongFalsely : Prop := fnExactRightOfRow.holds Tryz.pinned (OpenSpec.ofChange fnExactRightOfWrong)

/-- 'laws.FnExactIsAhead': WHATEVER THE INPUT: true; the input reads as it did. -/
def fnExactIsAheadSpec : ChangeSpec := { name := "fnExactIsAhead", fn := fun _ => fun
  | [d1, d2, d3] => { results := [.lit (.bool true)], args := [d1, d2, d3] }
  | _ => none }
def fnExactIsAheadRow : OpenClaim := { program := "ytjdknehlkfcbdaagreat", sum := "98b67c67759ade02cd5e4348e12addae852931fc4137f1e96cccacfa156000f3", func := "loop.example/g03003/laws.FnExactIsAhead", spec := "fnExactIsAhead", unfollowed := true, recurses := true, apart := false }
def FnExactIsAheadSaid : Prop := fnExactIsAheadRow.holds Tryz.pinned (OpenSpec.ofChange fnExactIsAheadSpec)

/-- ITS FALSE NEIGHBOUR: 'it returns false'. Refute it at one input. -/
def fnExactIsAheadWrong : ChangeSpec := { name := "fnExactIsAhead", fn := fun _ => fun
  | [d1, d2, d3] => { results := [.lit (.bool false)], args := [d1, d2, d3] }
  | _ => none }
def FnExactIsAheadWrongFalsely : Prop := fnExactIsAheadRow.holds Tryz.pinned (OpenSpec.ofChange fnExactIsAheadWrong)

/-- 'laws.FnExactIsSession': WHATEVER THE INPUT: true; the input reads as it did. -/
def fnExactIsSessionSpec : ChangeSpec := { name := "fnExactIsSession", fn := fun _ => fun
  | [d1, d2] => { results := [.lit (.bool true)], args := [d1, d2] }
  | _ => none }
def fnExactIsSessionRow : OpenClaim := { program := "ytjdknehlkfcbdaagreat", sum := "98b67c67759ade02cd5e4348e12addae852931fc4137f1e96cccacfa156000f3", func := "loop.example/g03003/laws.FnExactIsSession", spec := "fnExactIsSession", unfollowed := true, recurses := true, apart := false }
def FnExactIsSessionSaid : Prop := fnExactIsSessionRow.holds Tryz.pinned (OpenSpec.ofChange fnExactIsSessionSpec)

/-- ITS FALSE NEIGHBOUR: 'it returns false'. Refute it at one input. -/
def fnExactIsSessionWrong : ChangeSpec := { name := "fnExactIsSession", fn := fun _ => fun
  | [d1, d2] => { results := [.lit (.bool false)], args := [d1, d2] }
  | _ => none }
def FnExactIsSessionWrongFalsely : Prop := fnExactIsSessionRow.holds Tryz.pinned (OpenSpec.ofChange fnExactIsSessionWrong)

/-- 'laws.FnExactPointsOf': WHATEVER THE INPUT: true; the input reads as it did. -/
def fnExactPointsOfSpec : ChangeSpec := { name := "fnExactPointsOf", fn := fun _ => fun
  | [d1, d2] => { results := [.lit (.bool true)], args := [d1, d2] }
  | _ => none }
def fnExactPointsOfRow : OpenClaim := { program := "ytjdknehlkfcbdaagreat", sum := "98b67c67759ade02cd5e4348e12addae852931fc4137f1e96cccacfa156000f3", func := "loop.example/g03003/laws.FnExactPointsOf", spec := "fnExactPointsOf", unfollowed := true, recurses := true, apart := false }
def FnExactPointsOfSaid : Prop := fnExactPointsOfRow.holds Tryz.pinned (OpenSpec.ofChange fnExactPointsOfSpec)

/-- ITS FALSE NEIGHBOUR: 'it returns false'. Refute it at one input. -/
def fnExactPointsOfWrong : ChangeSpec := { name := "fnExactPointsOf", fn := fun _ => fun
  | [d1, d2] => { results := [.lit (.bool false)], args := [d1, d2] }
  | _ => none }
def FnExactPointsOfWrongFalsely : Prop := fnExactPointsOfRow.holds Tryz.pinned (OpenSpec.ofChange fnExactPointsOfWrong)

/- THE SECOND FORM. 'bulk': how many values and letters a reading holds, each counted each time it is reached (what is shared counts as often as it is met; a slice's spare places count too). A statement '..UptoSaid' is the law's where the arguments, and the package variables that the reading takes, are together of bulk at most 1048576: NARROWER than '..Said'. Prove '..Said' where nothing that the law and all that it calls make is longer than what came in: it says more and counts as full. Else prove '..UptoSaid'. A law counts once. -/
mutual
def uptoBulk {H : Type} : DataW H → Nat
  | .lit (.string bytes) => bytes.length + 1
  | .lit _ => 1
  | .nil => 1
  | .ptr d => uptoBulk d + 1
  | .slice elems spare => uptoBulkAll elems + uptoBulkAll spare + 1
  | .agg parts => uptoBulkAll parts + 1
  | .iface _ d => uptoBulk d + 1
  | .map entries => uptoBulkEntries entries + 1
  | .held _ => 1
def uptoBulkAll {H : Type} : List (DataW H) → Nat
  | [] => 0
  | d :: r => uptoBulk d + uptoBulkAll r
def uptoBulkEntries {H : Type} : List (Lit × DataW H) → Nat
  | [] => 0
  | x :: r => uptoBulkEntry x + uptoBulkEntries r
def uptoBulkEntry {H : Type} : Lit × DataW H → Nat
  | (.string bytes, d) => bytes.length + uptoBulk d + 1
  | (_, d) => uptoBulk d + 1
 end
def uptoSmall : (H : Type) → List (DataW H) → Bool := fun _ ds => decide (uptoBulkAll ds ≤ 1048576)
def OpenSpec.upto (s : _root_.Go.ChangeSpec) : _root_.Go.OpenSpec := { _root_.Go.OpenSpec.ofChange s with cond := some uptoSmall }

/-- 'laws.FnExactIsIssue', WHERE WHAT IT READS IS OF BULK AT MOST 1048576: true; the input reads as it did. -/
def fnExactIsIssueUptoRow : OpenClaim := { program := "ytjdknehlkfcbdaagreat", sum := "98b67c67759ade02cd5e4348e12addae852931fc4137f1e96cccacfa156000f3", func := "loop.example/g03003/laws.FnExactIsIssue", spec := "fnExactIsIssue", unfollowed := true, recurses := true, apart := false, narrowed := true }
def FnExactIsIssueUptoSaid : Prop := fnExactIsIssueUptoRow.holds Tryz.pinned (OpenSpec.upto fnExactIsIssueSpec)

/-- 'laws.FnExactIsEntry', WHERE WHAT IT READS IS OF BULK AT MOST 1048576: true; the input reads as it did. -/
def fnExactIsEntryUptoRow : OpenClaim := { program := "ytjdknehlkfcbdaagreat", sum := "98b67c67759ade02cd5e4348e12addae852931fc4137f1e96cccacfa156000f3", func := "loop.example/g03003/laws.FnExactIsEntry", spec := "fnExactIsEntry", unfollowed := true, recurses := true, apart := false, narrowed := true }
def FnExactIsEntryUptoSaid : Prop := fnExactIsEntryUptoRow.holds Tryz.pinned (OpenSpec.upto fnExactIsEntrySpec)

/-- 'laws.FnExactRightOf', WHERE WHAT IT READS IS OF BULK AT MOST 1048576: true; the input reads as it did. -/
def fnExactRightOfUptoRow : OpenClaim := { program := "ytjdknehlkfcbdaagreat", sum := "98b67c67759ade02cd5e4348e12addae852931fc4137f1e96cccacfa156000f3", func := "loop.example/g03003/laws.FnExactRightOf", spec := "fnExactRightOf", unfollowed := true, recurses := true, apart := false, narrowed := true }
def FnExactRightOfUptoSaid : Prop := fnExactRightOfUptoRow.holds Tryz.pinned (OpenSpec.upto fnExactRightOfSpec)

/-- 'laws.FnExactIsAhead', WHERE WHAT IT READS IS OF BULK AT MOST 1048576: true; the input reads as it did. -/
def fnExactIsAheadUptoRow : OpenClaim := { program := "ytjdknehlkfcbdaagreat", sum := "98b67c67759ade02cd5e4348e12addae852931fc4137f1e96cccacfa156000f3", func := "loop.example/g03003/laws.FnExactIsAhead", spec := "fnExactIsAhead", unfollowed := true, recurses := true, apart := false, narrowed := true }
def FnExactIsAheadUptoSaid : Prop := fnExactIsAheadUptoRow.holds Tryz.pinned (OpenSpec.upto fnExactIsAheadSpec)

/-- 'laws.FnExactIsSession', WHERE WHAT IT READS IS OF BULK AT MOST 1048576: true; the input reads as it did. -/
def fnExactIsSessionUptoRow : OpenClaim := { program := "ytjdknehlkfcbdaagreat", sum := "98b67c67759ade02cd5e4348e12addae852931fc4137f1e96cccacfa156000f3", func := "loop.example/g03003/laws.FnExactIsSession", spec := "fnExactIsSession", unfollowed := true, recurses := true, apart := false, narrowed := true }
def FnExactIsSessionUptoSaid : Prop := fnExactIsSessionUptoRow.holds Tryz.pinned (OpenSpec.upto fnExactIsSessionSpec)

/-- 'laws.FnExactPointsOf', WHERE WHAT IT READS IS OF BULK AT MOST 1048576: true; the input reads as it did. -/
def fnExactPointsOfUptoRow : OpenClaim := { program := "ytjdknehlkfcbdaagreat", sum := "98b67c67759ade02cd5e4348e12addae852931fc4137f1e96cccacfa156000f3", func := "loop.example/g03003/laws.FnExactPointsOf", spec := "fnExactPointsOf", unfollowed := true, recurses := true, apart := false, narrowed := true }
def FnExactPointsOfUptoSaid : Prop := fnExactPointsOfUptoRow.holds Tryz.pinned (OpenSpec.upto fnExactPointsOfSpec)

end Rows
end Go.Proofs.YtjdknehlkfcbdaaGreat
