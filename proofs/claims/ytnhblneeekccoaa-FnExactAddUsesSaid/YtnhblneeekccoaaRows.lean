/-
  No cell of these rows narrows 'for every input' (looked for: loops, veiled, ifaces, maps, wideKeys, modest, calm, conditions, laid).
  DERIVED. THE GIVEN ROWS OF THIS SEAT. 3 by the template 'for every input the law returns true; each argument reads behind the call as it read before'; 0 by the template 'total and deterministic' (their statements: YtnhblneeekccoaaTotals.lean).
  GIVEN WITH THE SEED: the statements are not yours to turn. If you find one false, say at which input.
  Laid BY PROGRAM, IN A SANDBOX (cutbox-rows.mjs): the forced cells as the released guide's own fill.sh prints them over the translation 5052a76f324f406a… (all of the seat's roots in one cut). By AI agents, Wed Nov 11 2026. No macro, syntax, notation, axiom, sorry.
-/
import Derived.Test.YtnhblneeekccoaaChecked
import GoSem.Claim
import GoSem.ClaimJoined
import GoSem.ClaimMapViews
import Derived.JoinedTies
import Derived.KernelRfl
namespace Go.Proofs.Ytnhblneeekccoaa
/- THE CELL 'sum', in the pinned program and in every row, IS THE sha256 OF THE DUMP (.gsa) THAT YtnhblneeekccoaaProg.lean LOADS. Nothing in Lean hashes anything: it is a label: what it is worth is what the hold of that sum in a sandbox is worth. -/
noncomputable def Try.pinned : Pinned := { name := "ytnhblneeekccoaa", sum := "5052a76f324f406a618c531b8d91beefb00dbff1295a33c82c3cf764ff3cbdd1", checked := Try.checked }
namespace Rows
def none {H : Type} : Left H := { results := [], args := [] }

/-- 'laws.FnExactTakeNote': WHATEVER THE INPUT: true; the input reads as it did. -/
def fnExactTakeNoteSpec : ChangeSpec := { name := "fnExactTakeNote", fn := fun _ => fun
  | [d1, d2] => { results := [.lit (.bool true)], args := [d1, d2] }
  | _ => none }
def fnExactTakeNoteRow : OpenClaim := { program := "ytnhblneeekccoaa", sum := "5052a76f324f406a618c531b8d91beefb00dbff1295a33c82c3cf764ff3cbdd1", func := "loop.example/g03003/laws.FnExactTakeNote", spec := "fnExactTakeNote", inPlace := ["slices.overlaps[loop.example/g03003/impl.Note]"], apart := false }
def FnExactTakeNoteSaid : Prop := fnExactTakeNoteRow.holds Try.pinned (OpenSpec.ofChange fnExactTakeNoteSpec)

/-- ITS FALSE NEIGHBOUR: 'it returns false'. Refute it at one input. -/
def fnExactTakeNoteWrong : ChangeSpec := { name := "fnExactTakeNote", fn := fun _ => fun
  | [d1, d2] => { results := [.lit (.bool false)], args := [d1, d2] }
  | _ => none }
def FnExactTakeNoteWrongFalsely : Prop := fnExactTakeNoteRow.holds Try.pinned (OpenSpec.ofChange fnExactTakeNoteWrong)

/-- 'laws.FnExactAddUses': WHATEVER THE INPUT: true; the input reads as it did. -/
def fnExactAddUsesSpec : ChangeSpec := { name := "fnExactAddUses", fn := fun _ => fun
  | [d1, d2, d3] => { results := [.lit (.bool true)], args := [d1, d2, d3] }
  | _ => none }
def fnExactAddUsesRow : OpenClaim := { program := "ytnhblneeekccoaa", sum := "5052a76f324f406a618c531b8d91beefb00dbff1295a33c82c3cf764ff3cbdd1", func := "loop.example/g03003/laws.FnExactAddUses", spec := "fnExactAddUses", inPlace := ["slices.overlaps[loop.example/g03003/impl.Used]"], apart := false }
def FnExactAddUsesSaid : Prop := fnExactAddUsesRow.holds Try.pinned (OpenSpec.ofChange fnExactAddUsesSpec)

/-- ITS FALSE NEIGHBOUR: 'it returns false'. Refute it at one input. -/
def fnExactAddUsesWrong : ChangeSpec := { name := "fnExactAddUses", fn := fun _ => fun
  | [d1, d2, d3] => { results := [.lit (.bool false)], args := [d1, d2, d3] }
  | _ => none }
def FnExactAddUsesWrongFalsely : Prop := fnExactAddUsesRow.holds Try.pinned (OpenSpec.ofChange fnExactAddUsesWrong)

/-- 'laws.FnExactMergeNotes': WHATEVER THE INPUT: true; the input reads as it did. -/
def fnExactMergeNotesSpec : ChangeSpec := { name := "fnExactMergeNotes", fn := fun _ => fun
  | [d1, d2] => { results := [.lit (.bool true)], args := [d1, d2] }
  | _ => none }
def fnExactMergeNotesRow : OpenClaim := { program := "ytnhblneeekccoaa", sum := "5052a76f324f406a618c531b8d91beefb00dbff1295a33c82c3cf764ff3cbdd1", func := "loop.example/g03003/laws.FnExactMergeNotes", spec := "fnExactMergeNotes", inPlace := ["slices.overlaps[loop.example/g03003/impl.Note]"], apart := false }
def FnExactMergeNotesSaid : Prop := fnExactMergeNotesRow.holds Try.pinned (OpenSpec.ofChange fnExactMergeNotesSpec)

/-- ITS FALSE NEIGHBOUR: 'it returns false'. Refute it at one input. -/
def fnExactMergeNotesWrong : ChangeSpec := { name := "fnExactMergeNotes", fn := fun _ => fun
  | [d1, d2] => { results := [.lit (.bool false)], args := [d1, d2] }
  | _ => none }
def FnExactMergeNotesWrongFalsely : Prop := fnExactMergeNotesRow.holds Try.pinned (OpenSpec.ofChange fnExactMergeNotesWrong)

/- THE SECOND FORM. 'bulk': how many values and letters a reading holds, each counted each time it is reached (what is shared counts as often as it is met; a slice's spare places count too). A statement '..UptoSaid' is the law's where the arguments, and the package variables that the reading takes, are together of bulk at most 1048576: NARROWER than '..Said'. Prove '..Said' where nothing that the law and all that it calls make is longer than what came in: it says more and counts as full. Else prove '..UptoSaid'. A law counts once. -/
mutual
def uptoBulk {H : Type} : DataW H → Nat
  | .lit (.string bytes) => bytes.length + 1
  | .lit _ => 1
  | .nil => 1
  | .ptr d => uptoBulk d + 1
  | .slice elems spare => uptoBulkAll elems + uptoBulkAll spare + 1
  | .agg parts => uptoBulkAll parts + 1
  | .iface _ d => uptoBulk d + 1
  | .map entries => uptoBulkEntries entries + 1
  | .held _ => 1
def uptoBulkAll {H : Type} : List (DataW H) → Nat
  | [] => 0
  | d :: r => uptoBulk d + uptoBulkAll r
def uptoBulkEntries {H : Type} : List (Lit × DataW H) → Nat
  | [] => 0
  | x :: r => uptoBulkEntry x + uptoBulkEntries r
def uptoBulkEntry {H : Type} : Lit × DataW H → Nat
  | (.string bytes, d) => bytes.length + uptoBulk d + 1
  | (_, d) => uptoBulk d + 1
 end
def uptoSmall : (H : Type) → List (DataW H) → Bool := fun _ ds => decide (uptoBulkAll ds ≤ 1048576)
def OpenSpec.upto (s : _root_.Go.ChangeSpec) : _root_.Go.OpenSpec := { _root_.Go.OpenSpec.ofChange s with cond := some uptoSmall }

/-- 'laws.FnExactTakeNote', WHERE WHAT IT READS IS OF BULK AT MOST 1048576: true; the input reads as it did. -/
def fnExactTakeNoteUptoRow : OpenClaim := { program := "ytnhblneeekccoaa", sum := "5052a76f324f406a618c531b8d91beefb00dbff1295a33c82c3cf764ff3cbdd1", func := "loop.example/g03003/laws.FnExactTakeNote", spec := "fnExactTakeNote", inPlace := ["slices.overlaps[loop.example/g03003/impl.Note]"], apart := false, narrowed := true }
def FnExactTakeNoteUptoSaid : Prop := fnExactTakeNoteUptoRow.holds Try.pinned (OpenSpec.upto fnExactTakeNoteSpec)

/-- 'laws.FnExactAddUses', WHERE WHAT IT READS IS OF BULK AT MOST 1048576: true; the input reads as it did. -/
def fnExactAddUsesUptoRow : OpenClaim := { program := "ytnhblneeekccoaa", sum := "5052a76f324f406a618c531b8d91beefb00dbff1295a33c82c3cf764ff3cbdd1", func := "loop.example/g03003/laws.FnExactAddUses", spec := "fnExactAddUses", inPlace := ["slices.overlaps[loop.example/g03003/impl.Used]"], apart := false, narrowed := true }
def FnExactAddUsesUptoSaid : Prop := fnExactAddUsesUptoRow.holds Try.pinned (OpenSpec.upto fnExactAddUsesSpec)

/-- 'laws.FnExactMergeNotes', WHERE WHAT IT READS IS OF BULK AT MOST 1048576: true; the input reads as it did. -/
def fnExactMergeNotesUptoRow : OpenClaim := { program := "ytnhblneeekccoaa", sum := "5052a76f324f406a618c531b8d91beefb00dbff1295a33c82c3cf764ff3cbdd1", func := "loop.example/g03003/laws.FnExactMergeNotes", spec := "fnExactMergeNotes", inPlace := ["slices.overlaps[loop.example/g03003/impl.Note]"], apart := false, narrowed := true }
def FnExactMergeNotesUptoSaid : Prop := fnExactMergeNotesUptoRow.holds Try.pinned (OpenSpec.upto fnExactMergeNotesSpec)

end Rows
end Go.Proofs.Ytnhblneeekccoaa
