/-
  No cell of these rows narrows 'for every input' (looked for: loops, veiled, ifaces, maps, wideKeys, modest, calm, conditions, laid).
  DERIVED. THE GIVEN ROWS OF THIS SEAT. 4 by the template 'for every input the law returns true; each argument reads behind the call as it read before'; 0 by the template 'total and deterministic' (their statements: YtfpnmphheminbaaTotals.lean).
  GIVEN WITH THE SEED: the statements are not yours to turn. If you find one false, say at which input.
  Laid BY PROGRAM, IN A SANDBOX (cutbox-rows.mjs): the forced cells as the released guide's own fill.sh prints them over the translation 451bc83d2a8f60d2… (all of the seat's roots in one cut). By AI agents, Wed Nov 11 2026. No macro, syntax, notation, axiom, sorry.
-/
import Derived.Test.YtfpnmphheminbaaChecked
import GoSem.Claim
import GoSem.ClaimJoined
import GoSem.ClaimMapViews
import Derived.JoinedTies
import Derived.KernelRfl
namespace Go.Proofs.Ytfpnmphheminbaa
/- THE CELL 'sum', in the pinned program and in every row, IS THE sha256 OF THE DUMP (.gsa) THAT YtfpnmphheminbaaProg.lean LOADS. Nothing in Lean hashes anything: it is a label: what it is worth is what the hold of that sum in a sandbox is worth. -/
noncomputable def Try.pinned : Pinned := { name := "ytfpnmphheminbaa", sum := "451bc83d2a8f60d2537b30fbc5ee770ee02be69315d79e0f02843040bda9bf55", checked := Try.checked }
namespace Rows
def none {H : Type} : Left H := { results := [], args := [] }

/-- 'laws.FnExactAddUses': WHATEVER THE INPUT: true; the input reads as it did. -/
def fnExactAddUsesSpec : ChangeSpec := { name := "fnExactAddUses", fn := fun _ => fun
  | [d1, d2, d3] => { results := [.lit (.bool true)], args := [d1, d2, d3] }
  | _ => none }
def fnExactAddUsesRow : OpenClaim := { program := "ytfpnmphheminbaa", sum := "451bc83d2a8f60d2537b30fbc5ee770ee02be69315d79e0f02843040bda9bf55", func := "loop.example/g03003/laws.FnExactAddUses", spec := "fnExactAddUses", inPlace := ["slices.overlaps[loop.example/g03003/impl.Used]"], apart := false }
def FnExactAddUsesSaid : Prop := fnExactAddUsesRow.holds Try.pinned (OpenSpec.ofChange fnExactAddUsesSpec)

/-- ITS FALSE NEIGHBOUR: 'it returns false'. Refute it at one input. -/
def fnExactAddUsesWrong : ChangeSpec := { name := "fnExactAddUses", fn := fun _ => fun
  | [d1, d2, d3] => { results := [.lit (.bool false)], args := [d1, d2, d3] }
  | _ => none }
def FnExactAddUsesWrongFalsely : Prop := fnExactAddUsesRow.holds Try.pinned (OpenSpec.ofChange fnExactAddUsesWrong)

/-- 'laws.FnExactTakeNote': WHATEVER THE INPUT: true; the input reads as it did. -/
def fnExactTakeNoteSpec : ChangeSpec := { name := "fnExactTakeNote", fn := fun _ => fun
  | [d1, d2] => { results := [.lit (.bool true)], args := [d1, d2] }
  | _ => none }
def fnExactTakeNoteRow : OpenClaim := { program := "ytfpnmphheminbaa", sum := "451bc83d2a8f60d2537b30fbc5ee770ee02be69315d79e0f02843040bda9bf55", func := "loop.example/g03003/laws.FnExactTakeNote", spec := "fnExactTakeNote", inPlace := ["slices.overlaps[loop.example/g03003/impl.Note]"], apart := false }
def FnExactTakeNoteSaid : Prop := fnExactTakeNoteRow.holds Try.pinned (OpenSpec.ofChange fnExactTakeNoteSpec)

/-- ITS FALSE NEIGHBOUR: 'it returns false'. Refute it at one input. -/
def fnExactTakeNoteWrong : ChangeSpec := { name := "fnExactTakeNote", fn := fun _ => fun
  | [d1, d2] => { results := [.lit (.bool false)], args := [d1, d2] }
  | _ => none }
def FnExactTakeNoteWrongFalsely : Prop := fnExactTakeNoteRow.holds Try.pinned (OpenSpec.ofChange fnExactTakeNoteWrong)

/-- 'laws.FnExactMergeNotes': WHATEVER THE INPUT: true; the input reads as it did. -/
def fnExactMergeNotesSpec : ChangeSpec := { name := "fnExactMergeNotes", fn := fun _ => fun
  | [d1, d2] => { results := [.lit (.bool true)], args := [d1, d2] }
  | _ => none }
def fnExactMergeNotesRow : OpenClaim := { program := "ytfpnmphheminbaa", sum := "451bc83d2a8f60d2537b30fbc5ee770ee02be69315d79e0f02843040bda9bf55", func := "loop.example/g03003/laws.FnExactMergeNotes", spec := "fnExactMergeNotes", inPlace := ["slices.overlaps[loop.example/g03003/impl.Note]"], apart := false }
def FnExactMergeNotesSaid : Prop := fnExactMergeNotesRow.holds Try.pinned (OpenSpec.ofChange fnExactMergeNotesSpec)

/-- ITS FALSE NEIGHBOUR: 'it returns false'. Refute it at one input. -/
def fnExactMergeNotesWrong : ChangeSpec := { name := "fnExactMergeNotes", fn := fun _ => fun
  | [d1, d2] => { results := [.lit (.bool false)], args := [d1, d2] }
  | _ => none }
def FnExactMergeNotesWrongFalsely : Prop := fnExactMergeNotesRow.holds Try.pinned (OpenSpec.ofChange fnExactMergeNotesWrong)

/-- 'laws.FnExactAddCorrection': WHATEVER THE INPUT: true; the input reads as it did. -/
def fnExactAddCorrectionSpec : ChangeSpec := { name := "fnExactAddCorrection", fn := fun _ => fun
  | [d1, d2] => { results := [.lit (.bool true)], args := [d1, d2] }
  | _ => none }
def fnExactAddCorrectionRow : OpenClaim := { program := "ytfpnmphheminbaa", sum := "451bc83d2a8f60d2537b30fbc5ee770ee02be69315d79e0f02843040bda9bf55", func := "loop.example/g03003/laws.FnExactAddCorrection", spec := "fnExactAddCorrection", apart := false }
def FnExactAddCorrectionSaid : Prop := fnExactAddCorrectionRow.holds Try.pinned (OpenSpec.ofChange fnExactAddCorrectionSpec)

/-- ITS FALSE NEIGHBOUR: 'it returns false'. Refute it at one input. -/
def fnExactAddCorrectionWrong : ChangeSpec := { name := "fnExactAddCorrection", fn := fun _ => fun
  | [d1, d2] => { results := [.lit (.bool false)], args := [d1, d2] }
  | _ => none }
def FnExactAddCorrectionWrongFalsely : Prop := fnExactAddCorrectionRow.holds Try.pinned (OpenSpec.ofChange fnExactAddCorrectionWrong)

/- THE SECOND FORM. 'bulk': how many values and letters a reading holds, each counted each time it is reached (what is shared counts as often as it is met; a slice's spare places count too). A statement '..UptoSaid' is the law's where the arguments, and the package variables that the reading takes, are together of bulk at most 1048576: NARROWER than '..Said'. Prove '..Said' where nothing that the law and all that it calls make is longer than what came in: it says more and counts as full. Else prove '..UptoSaid'. A law counts once. -/
mutual
def uptoBulk {H : Type} : DataW H → Nat
  | .lit (.string bytes) => bytes.length + 1
  | .lit _ => 1
  | .nil => 1
  | .ptr d => uptoBulk d + 1
  | .slice elems spare => uptoBulkAll elems + uptoBulkAll spare + 1
  | .agg parts => uptoBulkAll parts + 1
  | .iface _ d => uptoBulk d + 1
  | .map entries => uptoBulkEntries entries + 1
  | .held _ => 1
def uptoBulkAll {H : Type} : List (DataW H) → Nat
  | [] => 0
  | d :: r => uptoBulk d + uptoBulkAll r
def uptoBulkEntries {H : Type} : List (Lit × DataW H) → Nat
  | [] => 0
  | x :: r => uptoBulkEntry x + uptoBulkEntries r
def uptoBulkEntry {H : Type} : Lit × DataW H → Nat
  | (.string bytes, d) => bytes.length + uptoBulk d + 1
  | (_, d) => uptoBulk d + 1
 end
def uptoSmall : (H : Type) → List (DataW H) → Bool := fun _ ds => decide (uptoBulkAll ds ≤ 1048576)
def OpenSpec.upto (s : _root_.Go.ChangeSpec) : _root_.Go.OpenSpec := { _root_.Go.OpenSpec.ofChange s with cond := some uptoSmall }

/-- 'laws.FnExactAddUses', WHERE WHAT IT READS IS OF BULK AT MOST 1048576: true; the input reads as it did. -/
def fnExactAddUsesUptoRow : OpenClaim := { program := "ytfpnmphheminbaa", sum := "451bc83d2a8f60d2537b30fbc5ee770ee02be69315d79e0f02843040bda9bf55", func := "loop.example/g03003/laws.FnExactAddUses", spec := "fnExactAddUses", inPlace := ["slices.overlaps[loop.example/g03003/impl.Used]"], apart := false, narrowed := true }
def FnExactAddUsesUptoSaid : Prop := fnExactAddUsesUptoRow.holds Try.pinned (OpenSpec.upto fnExactAddUsesSpec)

/-- 'laws.FnExactTakeNote', WHERE WHAT IT READS IS OF BULK AT MOST 1048576: true; the input reads as it did. -/
def fnExactTakeNoteUptoRow : OpenClaim := { program := "ytfpnmphheminbaa", sum := "451bc83d2a8f60d2537b30fbc5ee770ee02be69315d79e0f02843040bda9bf55", func := "loop.example/g03003/laws.FnExactTakeNote", spec := "fnExactTakeNote", inPlace := ["slices.overlaps[loop.example/g03003/impl.Note]"], apart := false, narrowed := true }
def FnExactTakeNoteUptoSaid : Prop := fnExactTakeNoteUptoRow.holds Try.pinned (OpenSpec.upto fnExactTakeNoteSpec)

/-- 'laws.FnExactMergeNotes', WHERE WHAT IT READS IS OF BULK AT MOST 1048576: true; the input reads as it did. -/
def fnExactMergeNotesUptoRow : OpenClaim := { program := "ytfpnmphheminbaa", sum := "451bc83d2a8f60d2537b30fbc5ee770ee02be69315d79e0f02843040bda9bf55", func := "loop.example/g03003/laws.FnExactMergeNotes", spec := "fnExactMergeNotes", inPlace := ["slices.overlaps[loop.example/g03003/impl.Note]"], apart := false, narrowed := true }
def FnExactMergeNotesUptoSaid : Prop := fnExactMergeNotesUptoRow.holds Try.pinned (OpenSpec.upto fnExactMergeNotesSpec)

/-- 'laws.FnExactAddCorrection', WHERE WHAT IT READS IS OF BULK AT MOST 1048576: true; the input reads as it did. -/
def fnExactAddCorrectionUptoRow : OpenClaim := { program := "ytfpnmphheminbaa", sum := "451bc83d2a8f60d2537b30fbc5ee770ee02be69315d79e0f02843040bda9bf55", func := "loop.example/g03003/laws.FnExactAddCorrection", spec := "fnExactAddCorrection", apart := false, narrowed := true }
def FnExactAddCorrectionUptoSaid : Prop := fnExactAddCorrectionUptoRow.holds Try.pinned (OpenSpec.upto fnExactAddCorrectionSpec)

end Rows
end Go.Proofs.Ytfpnmphheminbaa
