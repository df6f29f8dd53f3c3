/-
  No cell of these rows narrows 'for every input' (looked for: loops, veiled, ifaces, maps, wideKeys, modest, calm, conditions, laid).
  DERIVED. THE GIVEN ROWS OF THIS SEAT. 4 by the template 'for every input the law returns true; each argument reads behind the call as it read before'; 0 by the template 'total and deterministic' (their statements: YtjclbdgjkecbeaaTotals.lean).
  GIVEN WITH THE SEED: the statements are not yours to turn. If you find one false, say at which input.
  Laid BY PROGRAM, IN A SANDBOX (cutbox-rows.mjs): the forced cells as the released guide's own fill.sh prints them over the translation bc6fd00a76eb9595… (all of the seat's roots in one cut). By AI agents, Wed Nov 11 2026. No macro, syntax, notation, axiom, sorry.
-/
import Derived.Test.YtjclbdgjkecbeaaChecked
import GoSem.Claim
import GoSem.ClaimJoined
import GoSem.ClaimMapViews
import Derived.JoinedTies
import Derived.KernelRfl
namespace Go.Proofs.Ytjclbdgjkecbeaa
/- THE CELL 'sum', in the pinned program and in every row, IS THE sha256 OF THE DUMP (.gsa) THAT YtjclbdgjkecbeaaProg.lean LOADS. Nothing in Lean hashes anything: it is a label: what it is worth is what the hold of that sum in a sandbox is worth. -/
noncomputable def Try.pinned : Pinned := { name := "ytjclbdgjkecbeaa", sum := "bc6fd00a76eb9595aa8c3bd0c22ba23429788f4a773158320b8c09bde6f70edd", checked := Try.checked }
namespace Rows
def none {H : Type} : Left H := { results := [], args := [] }

/-- 'laws.FnExactIsDraft': WHATEVER THE INPUT: true; the input reads as it did. -/
def fnExactIsDraftSpec : ChangeSpec := { name := "fnExactIsDraft", fn := fun _ => fun
  | [d] => { results := [.lit (.bool true)], args := [d] }
  | _ => none }
def fnExactIsDraftRow : OpenClaim := { program := "ytjclbdgjkecbeaa", sum := "bc6fd00a76eb9595aa8c3bd0c22ba23429788f4a773158320b8c09bde6f70edd", func := "loop.example/g03003/laws.FnExactIsDraft", spec := "fnExactIsDraft", unfollowed := true, recurses := true, apart := false }
def FnExactIsDraftSaid : Prop := fnExactIsDraftRow.holds Try.pinned (OpenSpec.ofChange fnExactIsDraftSpec)

/-- ITS FALSE NEIGHBOUR: 'it returns false'. Refute it at one input. -/
def fnExactIsDraftWrong : ChangeSpec := { name := "fnExactIsDraft", fn := fun _ => fun
  | [d] => { results := [.lit (.bool false)], args := [d] }
  | _ => none }
def FnExactIsDraftWrongFalsely : Prop := fnExactIsDraftRow.holds Try.pinned (OpenSpec.ofChange fnExactIsDraftWrong)

/-- 'laws.FnExactChangedSlots': WHATEVER THE INPUT: true; the input reads as it did. -/
def fnExactChangedSlotsSpec : ChangeSpec := { name := "fnExactChangedSlots", fn := fun _ => fun
  | [d1, d2] => { results := [.lit (.bool true)], args := [d1, d2] }
  | _ => none }
def fnExactChangedSlotsRow : OpenClaim := { program := "ytjclbdgjkecbeaa", sum := "bc6fd00a76eb9595aa8c3bd0c22ba23429788f4a773158320b8c09bde6f70edd", func := "loop.example/g03003/laws.FnExactChangedSlots", spec := "fnExactChangedSlots", unfollowed := true, recurses := true, apart := false }
def FnExactChangedSlotsSaid : Prop := fnExactChangedSlotsRow.holds Try.pinned (OpenSpec.ofChange fnExactChangedSlotsSpec)

/-- ITS FALSE NEIGHBOUR: 'it returns false'. Refute it at one input. -/
def fnExactChangedSlotsWrong : ChangeSpec := { name := "fnExactChangedSlots", fn := fun _ => fun
  | [d1, d2] => { results := [.lit (.bool false)], args := [d1, d2] }
  | _ => none }
def FnExactChangedSlotsWrongFalsely : Prop := fnExactChangedSlotsRow.holds Try.pinned (OpenSpec.ofChange fnExactChangedSlotsWrong)

/-- 'laws.FnExactSetClue': WHATEVER THE INPUT: true; the input reads as it did. -/
def fnExactSetClueSpec : ChangeSpec := { name := "fnExactSetClue", fn := fun _ => fun
  | [d1, d2, d3] => { results := [.lit (.bool true)], args := [d1, d2, d3] }
  | _ => none }
def fnExactSetClueRow : OpenClaim := { program := "ytjclbdgjkecbeaa", sum := "bc6fd00a76eb9595aa8c3bd0c22ba23429788f4a773158320b8c09bde6f70edd", func := "loop.example/g03003/laws.FnExactSetClue", spec := "fnExactSetClue", unfollowed := true, recurses := true, apart := false }
def FnExactSetClueSaid : Prop := fnExactSetClueRow.holds Try.pinned (OpenSpec.ofChange fnExactSetClueSpec)

/-- ITS FALSE NEIGHBOUR: 'it returns false'. Refute it at one input. -/
def fnExactSetClueWrong : ChangeSpec := { name := "fnExactSetClue", fn := fun _ => fun
  | [d1, d2, d3] => { results := [.lit (.bool false)], args := [d1, d2, d3] }
  | _ => none }
def FnExactSetClueWrongFalsely : Prop := fnExactSetClueRow.holds Try.pinned (OpenSpec.ofChange fnExactSetClueWrong)

/-- 'laws.FnExactSetWord': WHATEVER THE INPUT: true; the input reads as it did. -/
def fnExactSetWordSpec : ChangeSpec := { name := "fnExactSetWord", fn := fun _ => fun
  | [d1, d2, d3] => { results := [.lit (.bool true)], args := [d1, d2, d3] }
  | _ => none }
def fnExactSetWordRow : OpenClaim := { program := "ytjclbdgjkecbeaa", sum := "bc6fd00a76eb9595aa8c3bd0c22ba23429788f4a773158320b8c09bde6f70edd", func := "loop.example/g03003/laws.FnExactSetWord", spec := "fnExactSetWord", unfollowed := true, recurses := true, apart := false }
def FnExactSetWordSaid : Prop := fnExactSetWordRow.holds Try.pinned (OpenSpec.ofChange fnExactSetWordSpec)

/-- ITS FALSE NEIGHBOUR: 'it returns false'. Refute it at one input. -/
def fnExactSetWordWrong : ChangeSpec := { name := "fnExactSetWord", fn := fun _ => fun
  | [d1, d2, d3] => { results := [.lit (.bool false)], args := [d1, d2, d3] }
  | _ => none }
def FnExactSetWordWrongFalsely : Prop := fnExactSetWordRow.holds Try.pinned (OpenSpec.ofChange fnExactSetWordWrong)

/- THE SECOND FORM. 'bulk': how many values and letters a reading holds, each counted each time it is reached (what is shared counts as often as it is met; a slice's spare places count too). A statement '..UptoSaid' is the law's where the arguments, and the package variables that the reading takes, are together of bulk at most 1048576: NARROWER than '..Said'. Prove '..Said' where nothing that the law and all that it calls make is longer than what came in: it says more and counts as full. Else prove '..UptoSaid'. A law counts once. -/
mutual
def uptoBulk {H : Type} : DataW H → Nat
  | .lit (.string bytes) => bytes.length + 1
  | .lit _ => 1
  | .nil => 1
  | .ptr d => uptoBulk d + 1
  | .slice elems spare => uptoBulkAll elems + uptoBulkAll spare + 1
  | .agg parts => uptoBulkAll parts + 1
  | .iface _ d => uptoBulk d + 1
  | .map entries => uptoBulkEntries entries + 1
  | .held _ => 1
def uptoBulkAll {H : Type} : List (DataW H) → Nat
  | [] => 0
  | d :: r => uptoBulk d + uptoBulkAll r
def uptoBulkEntries {H : Type} : List (Lit × DataW H) → Nat
  | [] => 0
  | x :: r => uptoBulkEntry x + uptoBulkEntries r
def uptoBulkEntry {H : Type} : Lit × DataW H → Nat
  | (.string bytes, d) => bytes.length + uptoBulk d + 1
  | (_, d) => uptoBulk d + 1
 end
def uptoSmall : (H : Type) → List (DataW H) → Bool := fun _ ds => decide (uptoBulkAll ds ≤ 1048576)
def OpenSpec.upto (s : _root_.Go.ChangeSpec) : _root_.Go.OpenSpec := { _root_.Go.OpenSpec.ofChange s with cond := some uptoSmall }

/-- 'laws.FnExactIsDraft', WHERE WHAT IT READS IS OF BULK AT MOST 1048576: true; the input reads as it did. -/
def fnExactIsDraftUptoRow : OpenClaim := { program := "ytjclbdgjkecbeaa", sum := "bc6fd00a76eb9595aa8c3bd0c22ba23429788f4a773158320b8c09bde6f70edd", func := "loop.example/g03003/laws.FnExactIsDraft", spec := "fnExactIsDraft", unfollowed := true, recurses := true, apart := false, narrowed := true }
def FnExactIsDraftUptoSaid : Prop := fnExactIsDraftUptoRow.holds Try.pinned (OpenSpec.upto fnExactIsDraftSpec)

/-- 'laws.FnExactChangedSlots', WHERE WHAT IT READS IS OF BULK AT MOST 1048576: true; the input reads as it did. -/
def fnExactChangedSlotsUptoRow : OpenClaim := { program := "ytjclbdgjkecbeaa", sum := "bc6fd00a76eb9595aa8c3bd0c22ba23429788f4a773158320b8c09bde6f70edd", func := "loop.example/g03003/laws.FnExactChangedSlots", spec := "fnExactChangedSlots", unfollowed := true, recurses := true, apart := false, narrowed := true }
def FnExactChangedSlotsUptoSaid : Prop := fnExactChangedSlotsUptoRow.holds Try.pinned (OpenSpec.upto fnExactChangedSlotsSpec)

/-- 'laws.FnExactSetClue', WHERE WHAT IT READS IS OF BULK AT MOST 1048576: true; the input reads as it did. -/
def fnExactSetClueUptoRow : OpenClaim := { program := "ytjclbdgjkecbeaa", sum := "bc6fd00a76eb9595aa8c3bd0c22ba23429788f4a773158320b8c09bde6f70edd", func := "loop.example/g03003/laws.FnExactSetClue", spec := "fnExactSetClue", unfollowed := true, recurses := true, apart := false, narrowed := true }
def FnExactSetClueUptoSaid : Prop := fnExactSetClueUptoRow.holds Try.pinned (OpenSpec.upto fnExactSetClueSpec)

/-- 'laws.FnExactSetWord', WHERE WHAT IT READS IS OF BULK AT MOST 1048576: true; the input reads as it did. -/
def fnExactSetWordUptoRow : OpenClaim := { program := "ytjclbdgjkecbeaa", sum := "bc6fd00a76eb9595aa8c3bd0c22ba23429788f4a773158320b8c09bde6f70edd", func := "loop.example/g03003/laws.FnExactSetWord", spec := "fnExactSetWord", unfollowed := true, recurses := true, apart := false, narrowed := true }
def FnExactSetWordUptoSaid : Prop := fnExactSetWordUptoRow.holds Try.pinned (OpenSpec.upto fnExactSetWordSpec)

end Rows
end Go.Proofs.Ytjclbdgjkecbeaa
