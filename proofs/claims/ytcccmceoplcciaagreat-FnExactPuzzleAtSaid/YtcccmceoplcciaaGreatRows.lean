/-
  No cell of these rows narrows 'for every input' (looked for: loops, veiled, ifaces, maps, wideKeys, modest, calm, conditions, laid).
  DERIVED. THE GIVEN ROWS OF THIS SEAT. 7 by the template 'for every input the law returns true; each argument reads behind the call as it read before'; 0 by the template 'total and deterministic' (their statements: YtcccmceoplcciaaGreatTotals.lean).
  GIVEN WITH THE SEED: the statements are not yours to turn. If you find one false, say at which input.
  Laid BY PROGRAM, IN A SANDBOX (cutbox-rows.mjs): the forced cells as the released guide's own fill.sh prints them over the translation 7b25bcc21b399926… (all of the seat's roots in one cut). By AI agents, Wed Nov 11 2026. No macro, syntax, notation, axiom, sorry.
-/
import Derived.Test.YtcccmceoplcciaaGreatChecked
import GoSem.Claim
import GoSem.ClaimJoined
import GoSem.ClaimMapViews
import Derived.JoinedTies
import Derived.KernelRfl
namespace Go.Proofs.YtcccmceoplcciaaGreat
/- THE CELL 'sum', in the pinned program and in every row, IS THE sha256 OF THE DUMP (.gsa) THAT YtcccmceoplcciaaGreatProg.lean LOADS. Nothing in Lean hashes anything: it is a label: what it is worth is what the hold of that sum in a sandbox is worth. -/
noncomputable def Tryz.pinned : Pinned := { name := "ytcccmceoplcciaagreat", sum := "7b25bcc21b399926de640d56d86fae749ee3bbf6590b4cd03b73b9ba7c81cb46", checked := Tryz.checked }
namespace Rows
def none {H : Type} : Left H := { results := [], args := [] }

/-- 'laws.FnExactCorrectedSlots': WHATEVER THE INPUT: true; the input reads as it did. -/
def fnExactCorrectedSlotsSpec : ChangeSpec := { name := "fnExactCorrectedSlots", fn := fun _ => fun
  | [d1, d2, d3] => { results := [.lit (.bool true)], args := [d1, d2, d3] }
  | _ => none }
def fnExactCorrectedSlotsRow : OpenClaim := { program := "ytcccmceoplcciaagreat", sum := "7b25bcc21b399926de640d56d86fae749ee3bbf6590b4cd03b73b9ba7c81cb46", func := "loop.example/g03003/laws.FnExactCorrectedSlots", spec := "fnExactCorrectedSlots", unfollowed := true, recurses := true, apart := false }
def FnExactCorrectedSlotsSaid : Prop := fnExactCorrectedSlotsRow.holds Tryz.pinned (OpenSpec.ofChange fnExactCorrectedSlotsSpec)

/-- ITS FALSE NEIGHBOUR: 'it returns false'. Refute it at one input. -/
def fnExactCorrectedSlotsWrong : ChangeSpec := { name := "fnExactCorrectedSlots", fn := fun _ => fun
  | [d1, d2, d3] => { results := [.lit (.bool false)], args := [d1, d2, d3] }
  | _ => none }
def FnExactCorrectedSlotsWrongFalsely : Prop := fnExactCorrectedSlotsRow.holds Tryz.pinned (OpenSpec.ofChange fnExactCorrectedSlotsWrong)

/-- 'laws.FnExactIsSession': WHATEVER THE INPUT: true; the input reads as it did. -/
def fnExactIsSessionSpec : ChangeSpec := { name := "fnExactIsSession", fn := fun _ => fun
  | [d1, d2] => { results := [.lit (.bool true)], args := [d1, d2] }
  | _ => none }
def fnExactIsSessionRow : OpenClaim := { program := "ytcccmceoplcciaagreat", sum := "7b25bcc21b399926de640d56d86fae749ee3bbf6590b4cd03b73b9ba7c81cb46", func := "loop.example/g03003/laws.FnExactIsSession", spec := "fnExactIsSession", unfollowed := true, recurses := true, apart := false }
def FnExactIsSessionSaid : Prop := fnExactIsSessionRow.holds Tryz.pinned (OpenSpec.ofChange fnExactIsSessionSpec)

/-- ITS FALSE NEIGHBOUR: 'it returns false'. Refute it at one input. -/
def fnExactIsSessionWrong : ChangeSpec := { name := "fnExactIsSession", fn := fun _ => fun
  | [d1, d2] => { results := [.lit (.bool false)], args := [d1, d2] }
  | _ => none }
def FnExactIsSessionWrongFalsely : Prop := fnExactIsSessionRow.holds Tryz.pinned (OpenSpec.ofChange fnExactIsSessionWrong)

/-- 'laws.FnExactPuzzleAt': WHATEVER THE INPUT: true; the input reads as it did. -/
def fnExactPuzzleAtSpec : ChangeSpec := { name := "fnExactPuzzleAt", fn := fun _ => fun
  | [d1, d2, d3] => { results := [.lit (.bool true)], args := [d1, d2, d3] }
  | _ => none }
def fnExactPuzzleAtRow : OpenClaim := { program := "ytcccmceoplcciaagreat", sum := "7b25bcc21b399926de640d56d86fae749ee3bbf6590b4cd03b73b9ba7c81cb46", func := "loop.example/g03003/laws.FnExactPuzzleAt", spec := "fnExactPuzzleAt", unfollowed := true, recurses := true, apart := false }
def FnExactPuzzleAtSaid : Prop := fnExactPuzzleAtRow.holds Tryz.pinned (OpenSpec.ofChange fnExactPuzzleAtSpec)

/-- ITS FALSE NEIGHBOUR: 'it returns false'. Refute it at one input. -/
def fnExactPuzzleAtWrong : ChangeSpec := { name := "fnExactPuzzleAt", fn := fun _ => fun
  | [d1, d2, d3] => { results := [.lit (.bool false)], args := [d1, d2, d3] }
  | _ => none }
def FnExactPuzzleAtWrongFalsely : Prop := fnExactPuzzleAtRow.holds Tryz.pinned (OpenSpec.ofChange fnExactPuzzleAtWrong)

/-- 'laws.FnExactAskHint': WHATEVER THE INPUT: true; the input reads as it did. -/
def fnExactAskHintSpec : ChangeSpec := { name := "fnExactAskHint", fn := fun _ => fun
  | [d1, d2, d3, d4] => { results := [.lit (.bool true)], args := [d1, d2, d3, d4] }
  | _ => none }
def fnExactAskHintRow : OpenClaim := { program := "ytcccmceoplcciaagreat", sum := "7b25bcc21b399926de640d56d86fae749ee3bbf6590b4cd03b73b9ba7c81cb46", func := "loop.example/g03003/laws.FnExactAskHint", spec := "fnExactAskHint", unfollowed := true, recurses := true, apart := false }
def FnExactAskHintSaid : Prop := fnExactAskHintRow.holds Tryz.pinned (OpenSpec.ofChange fnExactAskHintSpec)

/-- ITS FALSE NEIGHBOUR: 'it returns false'. Refute it at one input. -/
def fnExactAskHintWrong : ChangeSpec := { name := "fnExactAskHint", fn := fun _ => fun
  | [d1, d2, d3, d4] => { results := [.lit (.bool false)], args := [d1, d2, d3, d4] }
  | _ => none }
def FnExactAskHintWrongFalsely : Prop := fnExactAskHintRow.holds Tryz.pinned (OpenSpec.ofChange fnExactAskHintWrong)

/-- 'laws.FnExactWriteLetter': WHATEVER THE INPUT: true; the input reads as it did. -/
def fnExactWriteLetterSpec : ChangeSpec := { name := "fnExactWriteLetter", fn := fun _ => fun
  | [d1, d2, d3, d4] => { results := [.lit (.bool true)], args := [d1, d2, d3, d4] }
  | _ => none }
def fnExactWriteLetterRow : OpenClaim := { program := "ytcccmceoplcciaagreat", sum := "7b25bcc21b399926de640d56d86fae749ee3bbf6590b4cd03b73b9ba7c81cb46", func := "loop.example/g03003/laws.FnExactWriteLetter", spec := "fnExactWriteLetter", unfollowed := true, recurses := true, apart := false }
def FnExactWriteLetterSaid : Prop := fnExactWriteLetterRow.holds Tryz.pinned (OpenSpec.ofChange fnExactWriteLetterSpec)

/-- ITS FALSE NEIGHBOUR: 'it returns false'. Refute it at one input. -/
def fnExactWriteLetterWrong : ChangeSpec := { name := "fnExactWriteLetter", fn := fun _ => fun
  | [d1, d2, d3, d4] => { results := [.lit (.bool false)], args := [d1, d2, d3, d4] }
  | _ => none }
def FnExactWriteLetterWrongFalsely : Prop := fnExactWriteLetterRow.holds Tryz.pinned (OpenSpec.ofChange fnExactWriteLetterWrong)

/-- 'laws.FnExactPointsOf': WHATEVER THE INPUT: true; the input reads as it did. -/
def fnExactPointsOfSpec : ChangeSpec := { name := "fnExactPointsOf", fn := fun _ => fun
  | [d1, d2] => { results := [.lit (.bool true)], args := [d1, d2] }
  | _ => none }
def fnExactPointsOfRow : OpenClaim := { program := "ytcccmceoplcciaagreat", sum := "7b25bcc21b399926de640d56d86fae749ee3bbf6590b4cd03b73b9ba7c81cb46", func := "loop.example/g03003/laws.FnExactPointsOf", spec := "fnExactPointsOf", unfollowed := true, recurses := true, apart := false }
def FnExactPointsOfSaid : Prop := fnExactPointsOfRow.holds Tryz.pinned (OpenSpec.ofChange fnExactPointsOfSpec)

/-- ITS FALSE NEIGHBOUR: 'it returns false'. Refute it at one input. -/
def fnExactPointsOfWrong : ChangeSpec := { name := "fnExactPointsOf", fn := fun _ => fun
  | [d1, d2] => { results := [.lit (.bool false)], args := [d1, d2] }
  | _ => none }
def FnExactPointsOfWrongFalsely : Prop := fnExactPointsOfRow.holds Tryz.pinned (OpenSpec.ofChange fnExactPointsOfWrong)

/-- 'laws.FnExactCheckSlot': WHATEVER THE INPUT: true; the input reads as it did. -/
def fnExactCheckSlotSpec : ChangeSpec := { name := "fnExactCheckSlot", fn := fun _ => fun
  | [d1, d2, d3] => { results := [.lit (.bool true)], args := [d1, d2, d3] }
  | _ => none }
def fnExactCheckSlotRow : OpenClaim := { program := "ytcccmceoplcciaagreat", sum := "7b25bcc21b399926de640d56d86fae749ee3bbf6590b4cd03b73b9ba7c81cb46", func := "loop.example/g03003/laws.FnExactCheckSlot", spec := "fnExactCheckSlot", unfollowed := true, recurses := true, apart := false }
def FnExactCheckSlotSaid : Prop := fnExactCheckSlotRow.holds Tryz.pinned (OpenSpec.ofChange fnExactCheckSlotSpec)

/-- ITS FALSE NEIGHBOUR: 'it returns false'. Refute it at one input. -/
def fnExactCheckSlotWrong : ChangeSpec := { name := "fnExactCheckSlot", fn := fun _ => fun
  | [d1, d2, d3] => { results := [.lit (.bool false)], args := [d1, d2, d3] }
  | _ => none }
def FnExactCheckSlotWrongFalsely : Prop := fnExactCheckSlotRow.holds Tryz.pinned (OpenSpec.ofChange fnExactCheckSlotWrong)

/- THE SECOND FORM. 'bulk': how many values and letters a reading holds, each counted each time it is reached (what is shared counts as often as it is met; a slice's spare places count too). A statement '..UptoSaid' is the law's where the arguments, and the package variables that the reading takes, are together of bulk at most 1048576: NARROWER than '..Said'. Prove '..Said' where nothing that the law and all that it calls make is longer than what came in: it says more and counts as full. Else prove '..UptoSaid'. A law counts once. -/
mutual
def uptoBulk {H : Type} : DataW H → Nat
  | .lit (.string bytes) => bytes.length + 1
  | .lit _ => 1
  | .nil => 1
  | .ptr d => uptoBulk d + 1
  | .slice elems spare => uptoBulkAll elems + uptoBulkAll spare + 1
  | .agg parts => uptoBulkAll parts + 1
  | .iface _ d => uptoBulk d + 1
  | .map entries => uptoBulkEntries entries + 1
  | .held _ => 1
def uptoBulkAll {H : Type} : List (DataW H) → Nat
  | [] => 0
  | d :: r => uptoBulk d + uptoBulkAll r
def uptoBulkEntries {H : Type} : List (Lit × DataW H) → Nat
  | [] => 0
  | x :: r => uptoBulkEntry x + uptoBulkEntries r
def uptoBulkEntry {H : Type} : Lit × DataW H → Nat
  | (.string bytes, d) => bytes.length + uptoBulk d + 1
  | (_, d) => uptoBulk d + 1
 end
def uptoSmall : (H : Type) → List (DataW H) → Bool := fun _ ds => decide (uptoBulkAll ds ≤ 1048576)
def OpenSpec.upto (s : _root_.Go.ChangeSpec) : _root_.Go.OpenSpec := { _root_.Go.OpenSpec.ofChange s with cond := some uptoSmall }

/-- 'laws.FnExactCorrectedSlots', WHERE WHAT IT READS IS OF BULK AT MOST 1048576: true; the input reads as it did. -/
def fnExactCorrectedSlotsUptoRow : OpenClaim := { program := "ytcccmceoplcciaagreat", sum := "7b25bcc21b399926de640d56d86fae749ee3bbf6590b4cd03b73b9ba7c81cb46", func := "loop.example/g03003/laws.FnExactCorrectedSlots", spec := "fnExactCorrectedSlots", unfollowed := true, recurses := true, apart := false, narrowed := true }
def FnExactCorrectedSlotsUptoSaid : Prop := fnExactCorrectedSlotsUptoRow.holds Tryz.pinned (OpenSpec.upto fnExactCorrectedSlotsSpec)

/-- 'laws.FnExactIsSession', WHERE WHAT IT READS IS OF BULK AT MOST 1048576: true; the input reads as it did. -/
def fnExactIsSessionUptoRow : OpenClaim := { program := "ytcccmceoplcciaagreat", sum := "7b25bcc21b399926de640d56d86fae749ee3bbf6590b4cd03b73b9ba7c81cb46", func := "loop.example/g03003/laws.FnExactIsSession", spec := "fnExactIsSession", unfollowed := true, recurses := true, apart := false, narrowed := true }
def FnExactIsSessionUptoSaid : Prop := fnExactIsSessionUptoRow.holds Tryz.pinned (OpenSpec.upto fnExactIsSessionSpec)

/-- 'laws.FnExactPuzzleAt', WHERE WHAT IT READS IS OF BULK AT MOST 1048576: true; the input reads as it did. -/
def fnExactPuzzleAtUptoRow : OpenClaim := { program := "ytcccmceoplcciaagreat", sum := "7b25bcc21b399926de640d56d86fae749ee3bbf6590b4cd03b73b9ba7c81cb46", func := "loop.example/g03003/laws.FnExactPuzzleAt", spec := "fnExactPuzzleAt", unfollowed := true, recurses := true, apart := false, narrowed := true }
def FnExactPuzzleAtUptoSaid : Prop := fnExactPuzzleAtUptoRow.holds Tryz.pinned (OpenSpec.upto fnExactPuzzleAtSpec)

/-- 'laws.FnExactAskHint', WHERE WHAT IT READS IS OF BULK AT MOST 1048576: true; the input reads as it did. -/
def fnExactAskHintUptoRow : OpenClaim := { program := "ytcccmceoplcciaagreat", sum := "7b25bcc21b399926de640d56d86fae749ee3bbf6590b4cd03b73b9ba7c81cb46", func := "loop.example/g03003/laws.FnExactAskHint", spec := "fnExactAskHint", unfollowed := true, recurses := true, apart := false, narrowed := true }
def FnExactAskHintUptoSaid : Prop := fnExactAskHintUptoRow.holds Tryz.pinned (OpenSpec.upto fnExactAskHintSpec)

/-- 'laws.FnExactWriteLetter', WHERE WHAT IT READS IS OF BULK AT MOST 1048576: true; the input reads as it did. -/
def fnExactWriteLetterUptoRow : OpenClaim := { program := "ytcccmceoplcciaagreat", sum := "7b25bcc21b399926de640d56d86fae749ee3bbf6590b4cd03b73b9ba7c81cb46", func := "loop.example/g03003/laws.FnExactWriteLetter", spec := "fnExactWriteLetter", unfollowed := true, recurses := true, apart := false, narrowed := true }
def FnExactWriteLetterUptoSaid : Prop := fnExactWriteLetterUptoRow.holds Tryz.pinned (OpenSpec.upto fnExactWriteLetterSpec)

/-- 'laws.FnExactPointsOf', WHERE WHAT IT READS IS OF BULK AT MOST 1048576: true; the input reads as it did. -/
def fnExactPointsOfUptoRow : OpenClaim := { program := "ytcccmceoplcciaagreat", sum := "7b25bcc21b399926de640d56d86fae749ee3bbf6590b4cd03b73b9ba7c81cb46", func := "loop.example/g03003/laws.FnExactPointsOf", spec := "fnExactPointsOf", unfollowed := true, recurses := true, apart := false, narrowed := true }
def FnExactPointsOfUptoSaid : Prop := fnExactPointsOfUptoRow.holds Tryz.pinned (OpenSpec.upto fnExactPointsOfSpec)

/-- 'laws.FnExactCheckSlot', WHERE WHAT IT READS IS OF BULK AT MOST 1048576: true; the input reads as it did. -/
def fnExactCheckSlotUptoRow : OpenClaim := { program := "ytcccmceoplcciaagreat", sum := "7b25bcc21b399926de640d56d86fae749ee3bbf6590b4cd03b73b9ba7c81cb46", func := "loop.example/g03003/laws.FnExactCheckSlot", spec := "fnExactCheckSlot", unfollowed := true, recurses := true, apart := false, narrowed := true }
def FnExactCheckSlotUptoSaid : Prop := fnExactCheckSlotUptoRow.holds Tryz.pinned (OpenSpec.upto fnExactCheckSlotSpec)

end Rows
end Go.Proofs.YtcccmceoplcciaaGreat
