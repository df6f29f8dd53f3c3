/-
  No cell of these rows narrows 'for every input' (looked for: loops, veiled, ifaces, maps, wideKeys, modest, calm, conditions, laid).
  DERIVED. THE GIVEN ROWS OF THIS SEAT. 12 by the template 'for every input the law returns true; each argument reads behind the call as it read before'; 0 by the template 'total and deterministic' (their statements: YthdnjihmjdbdkaaTotals.lean).
  GIVEN WITH THE SEED: the statements are not yours to turn. If you find one false, say at which input.
  Laid BY PROGRAM, IN A SANDBOX (cutbox-rows.mjs): the forced cells as the released guide's own fill.sh prints them over the translation 85b890b079f66806… (all of the seat's roots in one cut). By AI agents, Wed Nov 11 2026. No macro, syntax, notation, axiom, sorry.
-/
import Derived.Test.YthdnjihmjdbdkaaChecked
import GoSem.Claim
import GoSem.ClaimJoined
import GoSem.ClaimMapViews
import Derived.JoinedTies
import Derived.KernelRfl
namespace Go.Proofs.Ythdnjihmjdbdkaa
/- THE CELL 'sum', in the pinned program and in every row, IS THE sha256 OF THE DUMP (.gsa) THAT YthdnjihmjdbdkaaProg.lean LOADS. Nothing in Lean hashes anything: it is a label: what it is worth is what the hold of that sum in a sandbox is worth. -/
noncomputable def Try.pinned : Pinned := { name := "ythdnjihmjdbdkaa", sum := "85b890b079f66806019312aed9c78e6ddb692b6f62cf15ccb2c1377e1a409e6e", checked := Try.checked }
namespace Rows
def none {H : Type} : Left H := { results := [], args := [] }

/-- 'laws.FnExactAreUses': WHATEVER THE INPUT: true; the input reads as it did. -/
def fnExactAreUsesSpec : ChangeSpec := { name := "fnExactAreUses", fn := fun _ => fun
  | [d] => { results := [.lit (.bool true)], args := [d] }
  | _ => none }
def fnExactAreUsesRow : OpenClaim := { program := "ythdnjihmjdbdkaa", sum := "85b890b079f66806019312aed9c78e6ddb692b6f62cf15ccb2c1377e1a409e6e", func := "loop.example/g03003/laws.FnExactAreUses", spec := "fnExactAreUses", apart := false }
def FnExactAreUsesSaid : Prop := fnExactAreUsesRow.holds Try.pinned (OpenSpec.ofChange fnExactAreUsesSpec)

/-- ITS FALSE NEIGHBOUR: 'it returns false'. Refute it at one input. -/
def fnExactAreUsesWrong : ChangeSpec := { name := "fnExactAreUses", fn := fun _ => fun
  | [d] => { results := [.lit (.bool false)], args := [d] }
  | _ => none }
def FnExactAreUsesWrongFalsely : Prop := fnExactAreUsesRow.holds Try.pinned (OpenSpec.ofChange fnExactAreUsesWrong)

/-- 'laws.FnExactAreReports': WHATEVER THE INPUT: true; the input reads as it did. -/
def fnExactAreReportsSpec : ChangeSpec := { name := "fnExactAreReports", fn := fun _ => fun
  | [d] => { results := [.lit (.bool true)], args := [d] }
  | _ => none }
def fnExactAreReportsRow : OpenClaim := { program := "ythdnjihmjdbdkaa", sum := "85b890b079f66806019312aed9c78e6ddb692b6f62cf15ccb2c1377e1a409e6e", func := "loop.example/g03003/laws.FnExactAreReports", spec := "fnExactAreReports", apart := false }
def FnExactAreReportsSaid : Prop := fnExactAreReportsRow.holds Try.pinned (OpenSpec.ofChange fnExactAreReportsSpec)

/-- ITS FALSE NEIGHBOUR: 'it returns false'. Refute it at one input. -/
def fnExactAreReportsWrong : ChangeSpec := { name := "fnExactAreReports", fn := fun _ => fun
  | [d] => { results := [.lit (.bool false)], args := [d] }
  | _ => none }
def FnExactAreReportsWrongFalsely : Prop := fnExactAreReportsRow.holds Try.pinned (OpenSpec.ofChange fnExactAreReportsWrong)

/-- 'laws.FnExactTooSoon': WHATEVER THE INPUT: true; the input reads as it did. -/
def fnExactTooSoonSpec : ChangeSpec := { name := "fnExactTooSoon", fn := fun _ => fun
  | [d1, d2, d3, d4] => { results := [.lit (.bool true)], args := [d1, d2, d3, d4] }
  | _ => none }
def fnExactTooSoonRow : OpenClaim := { program := "ythdnjihmjdbdkaa", sum := "85b890b079f66806019312aed9c78e6ddb692b6f62cf15ccb2c1377e1a409e6e", func := "loop.example/g03003/laws.FnExactTooSoon", spec := "fnExactTooSoon", unfollowed := true, recurses := true, apart := false }
def FnExactTooSoonSaid : Prop := fnExactTooSoonRow.holds Try.pinned (OpenSpec.ofChange fnExactTooSoonSpec)

/-- ITS FALSE NEIGHBOUR: 'it returns false'. Refute it at one input. -/
def fnExactTooSoonWrong : ChangeSpec := { name := "fnExactTooSoon", fn := fun _ => fun
  | [d1, d2, d3, d4] => { results := [.lit (.bool false)], args := [d1, d2, d3, d4] }
  | _ => none }
def FnExactTooSoonWrongFalsely : Prop := fnExactTooSoonRow.holds Try.pinned (OpenSpec.ofChange fnExactTooSoonWrong)

/-- 'laws.FnExactAddReport': WHATEVER THE INPUT: true; the input reads as it did. -/
def fnExactAddReportSpec : ChangeSpec := { name := "fnExactAddReport", fn := fun _ => fun
  | [d1, d2] => { results := [.lit (.bool true)], args := [d1, d2] }
  | _ => none }
def fnExactAddReportRow : OpenClaim := { program := "ythdnjihmjdbdkaa", sum := "85b890b079f66806019312aed9c78e6ddb692b6f62cf15ccb2c1377e1a409e6e", func := "loop.example/g03003/laws.FnExactAddReport", spec := "fnExactAddReport", apart := false }
def FnExactAddReportSaid : Prop := fnExactAddReportRow.holds Try.pinned (OpenSpec.ofChange fnExactAddReportSpec)

/-- ITS FALSE NEIGHBOUR: 'it returns false'. Refute it at one input. -/
def fnExactAddReportWrong : ChangeSpec := { name := "fnExactAddReport", fn := fun _ => fun
  | [d1, d2] => { results := [.lit (.bool false)], args := [d1, d2] }
  | _ => none }
def FnExactAddReportWrongFalsely : Prop := fnExactAddReportRow.holds Try.pinned (OpenSpec.ofChange fnExactAddReportWrong)

/-- 'laws.FnExactEqualDrafts': WHATEVER THE INPUT: true; the input reads as it did. -/
def fnExactEqualDraftsSpec : ChangeSpec := { name := "fnExactEqualDrafts", fn := fun _ => fun
  | [d1, d2] => { results := [.lit (.bool true)], args := [d1, d2] }
  | _ => none }
def fnExactEqualDraftsRow : OpenClaim := { program := "ythdnjihmjdbdkaa", sum := "85b890b079f66806019312aed9c78e6ddb692b6f62cf15ccb2c1377e1a409e6e", func := "loop.example/g03003/laws.FnExactEqualDrafts", spec := "fnExactEqualDrafts", unfollowed := true, recurses := true, apart := false }
def FnExactEqualDraftsSaid : Prop := fnExactEqualDraftsRow.holds Try.pinned (OpenSpec.ofChange fnExactEqualDraftsSpec)

/-- ITS FALSE NEIGHBOUR: 'it returns false'. Refute it at one input. -/
def fnExactEqualDraftsWrong : ChangeSpec := { name := "fnExactEqualDrafts", fn := fun _ => fun
  | [d1, d2] => { results := [.lit (.bool false)], args := [d1, d2] }
  | _ => none }
def FnExactEqualDraftsWrongFalsely : Prop := fnExactEqualDraftsRow.holds Try.pinned (OpenSpec.ofChange fnExactEqualDraftsWrong)

/-- 'laws.FnExactAreCorrections': WHATEVER THE INPUT: true; the input reads as it did. -/
def fnExactAreCorrectionsSpec : ChangeSpec := { name := "fnExactAreCorrections", fn := fun _ => fun
  | [d] => { results := [.lit (.bool true)], args := [d] }
  | _ => none }
def fnExactAreCorrectionsRow : OpenClaim := { program := "ythdnjihmjdbdkaa", sum := "85b890b079f66806019312aed9c78e6ddb692b6f62cf15ccb2c1377e1a409e6e", func := "loop.example/g03003/laws.FnExactAreCorrections", spec := "fnExactAreCorrections", apart := false }
def FnExactAreCorrectionsSaid : Prop := fnExactAreCorrectionsRow.holds Try.pinned (OpenSpec.ofChange fnExactAreCorrectionsSpec)

/-- ITS FALSE NEIGHBOUR: 'it returns false'. Refute it at one input. -/
def fnExactAreCorrectionsWrong : ChangeSpec := { name := "fnExactAreCorrections", fn := fun _ => fun
  | [d] => { results := [.lit (.bool false)], args := [d] }
  | _ => none }
def FnExactAreCorrectionsWrongFalsely : Prop := fnExactAreCorrectionsRow.holds Try.pinned (OpenSpec.ofChange fnExactAreCorrectionsWrong)

/-- 'laws.FnExactIsOpen': WHATEVER THE INPUT: true; the input reads as it did. -/
def fnExactIsOpenSpec : ChangeSpec := { name := "fnExactIsOpen", fn := fun _ => fun
  | [d1, d2] => { results := [.lit (.bool true)], args := [d1, d2] }
  | _ => none }
def fnExactIsOpenRow : OpenClaim := { program := "ythdnjihmjdbdkaa", sum := "85b890b079f66806019312aed9c78e6ddb692b6f62cf15ccb2c1377e1a409e6e", func := "loop.example/g03003/laws.FnExactIsOpen", spec := "fnExactIsOpen", apart := false }
def FnExactIsOpenSaid : Prop := fnExactIsOpenRow.holds Try.pinned (OpenSpec.ofChange fnExactIsOpenSpec)

/-- ITS FALSE NEIGHBOUR: 'it returns false'. Refute it at one input. -/
def fnExactIsOpenWrong : ChangeSpec := { name := "fnExactIsOpen", fn := fun _ => fun
  | [d1, d2] => { results := [.lit (.bool false)], args := [d1, d2] }
  | _ => none }
def FnExactIsOpenWrongFalsely : Prop := fnExactIsOpenRow.holds Try.pinned (OpenSpec.ofChange fnExactIsOpenWrong)

/-- 'laws.FnExactEqualIssues': WHATEVER THE INPUT: true; the input reads as it did. -/
def fnExactEqualIssuesSpec : ChangeSpec := { name := "fnExactEqualIssues", fn := fun _ => fun
  | [d1, d2] => { results := [.lit (.bool true)], args := [d1, d2] }
  | _ => none }
def fnExactEqualIssuesRow : OpenClaim := { program := "ythdnjihmjdbdkaa", sum := "85b890b079f66806019312aed9c78e6ddb692b6f62cf15ccb2c1377e1a409e6e", func := "loop.example/g03003/laws.FnExactEqualIssues", spec := "fnExactEqualIssues", unfollowed := true, recurses := true, apart := false }
def FnExactEqualIssuesSaid : Prop := fnExactEqualIssuesRow.holds Try.pinned (OpenSpec.ofChange fnExactEqualIssuesSpec)

/-- ITS FALSE NEIGHBOUR: 'it returns false'. Refute it at one input. -/
def fnExactEqualIssuesWrong : ChangeSpec := { name := "fnExactEqualIssues", fn := fun _ => fun
  | [d1, d2] => { results := [.lit (.bool false)], args := [d1, d2] }
  | _ => none }
def FnExactEqualIssuesWrongFalsely : Prop := fnExactEqualIssuesRow.holds Try.pinned (OpenSpec.ofChange fnExactEqualIssuesWrong)

/-- 'laws.FnExactTakeNote': WHATEVER THE INPUT: true; the input reads as it did. -/
def fnExactTakeNoteSpec : ChangeSpec := { name := "fnExactTakeNote", fn := fun _ => fun
  | [d1, d2] => { results := [.lit (.bool true)], args := [d1, d2] }
  | _ => none }
def fnExactTakeNoteRow : OpenClaim := { program := "ythdnjihmjdbdkaa", sum := "85b890b079f66806019312aed9c78e6ddb692b6f62cf15ccb2c1377e1a409e6e", func := "loop.example/g03003/laws.FnExactTakeNote", spec := "fnExactTakeNote", inPlace := ["slices.overlaps[loop.example/g03003/impl.Note]"], apart := false }
def FnExactTakeNoteSaid : Prop := fnExactTakeNoteRow.holds Try.pinned (OpenSpec.ofChange fnExactTakeNoteSpec)

/-- ITS FALSE NEIGHBOUR: 'it returns false'. Refute it at one input. -/
def fnExactTakeNoteWrong : ChangeSpec := { name := "fnExactTakeNote", fn := fun _ => fun
  | [d1, d2] => { results := [.lit (.bool false)], args := [d1, d2] }
  | _ => none }
def FnExactTakeNoteWrongFalsely : Prop := fnExactTakeNoteRow.holds Try.pinned (OpenSpec.ofChange fnExactTakeNoteWrong)

/-- 'laws.FnExactAddUses': WHATEVER THE INPUT: true; the input reads as it did. -/
def fnExactAddUsesSpec : ChangeSpec := { name := "fnExactAddUses", fn := fun _ => fun
  | [d1, d2, d3] => { results := [.lit (.bool true)], args := [d1, d2, d3] }
  | _ => none }
def fnExactAddUsesRow : OpenClaim := { program := "ythdnjihmjdbdkaa", sum := "85b890b079f66806019312aed9c78e6ddb692b6f62cf15ccb2c1377e1a409e6e", func := "loop.example/g03003/laws.FnExactAddUses", spec := "fnExactAddUses", inPlace := ["slices.overlaps[loop.example/g03003/impl.Used]"], apart := false }
def FnExactAddUsesSaid : Prop := fnExactAddUsesRow.holds Try.pinned (OpenSpec.ofChange fnExactAddUsesSpec)

/-- ITS FALSE NEIGHBOUR: 'it returns false'. Refute it at one input. -/
def fnExactAddUsesWrong : ChangeSpec := { name := "fnExactAddUses", fn := fun _ => fun
  | [d1, d2, d3] => { results := [.lit (.bool false)], args := [d1, d2, d3] }
  | _ => none }
def FnExactAddUsesWrongFalsely : Prop := fnExactAddUsesRow.holds Try.pinned (OpenSpec.ofChange fnExactAddUsesWrong)

/-- 'laws.FnExactMergeNotes': WHATEVER THE INPUT: true; the input reads as it did. -/
def fnExactMergeNotesSpec : ChangeSpec := { name := "fnExactMergeNotes", fn := fun _ => fun
  | [d1, d2] => { results := [.lit (.bool true)], args := [d1, d2] }
  | _ => none }
def fnExactMergeNotesRow : OpenClaim := { program := "ythdnjihmjdbdkaa", sum := "85b890b079f66806019312aed9c78e6ddb692b6f62cf15ccb2c1377e1a409e6e", func := "loop.example/g03003/laws.FnExactMergeNotes", spec := "fnExactMergeNotes", inPlace := ["slices.overlaps[loop.example/g03003/impl.Note]"], apart := false }
def FnExactMergeNotesSaid : Prop := fnExactMergeNotesRow.holds Try.pinned (OpenSpec.ofChange fnExactMergeNotesSpec)

/-- ITS FALSE NEIGHBOUR: 'it returns false'. Refute it at one input. -/
def fnExactMergeNotesWrong : ChangeSpec := { name := "fnExactMergeNotes", fn := fun _ => fun
  | [d1, d2] => { results := [.lit (.bool false)], args := [d1, d2] }
  | _ => none }
def FnExactMergeNotesWrongFalsely : Prop := fnExactMergeNotesRow.holds Try.pinned (OpenSpec.ofChange fnExactMergeNotesWrong)

/-- 'laws.FnExactAddCorrection': WHATEVER THE INPUT: true; the input reads as it did. -/
def fnExactAddCorrectionSpec : ChangeSpec := { name := "fnExactAddCorrection", fn := fun _ => fun
  | [d1, d2] => { results := [.lit (.bool true)], args := [d1, d2] }
  | _ => none }
def fnExactAddCorrectionRow : OpenClaim := { program := "ythdnjihmjdbdkaa", sum := "85b890b079f66806019312aed9c78e6ddb692b6f62cf15ccb2c1377e1a409e6e", func := "loop.example/g03003/laws.FnExactAddCorrection", spec := "fnExactAddCorrection", apart := false }
def FnExactAddCorrectionSaid : Prop := fnExactAddCorrectionRow.holds Try.pinned (OpenSpec.ofChange fnExactAddCorrectionSpec)

/-- ITS FALSE NEIGHBOUR: 'it returns false'. Refute it at one input. -/
def fnExactAddCorrectionWrong : ChangeSpec := { name := "fnExactAddCorrection", fn := fun _ => fun
  | [d1, d2] => { results := [.lit (.bool false)], args := [d1, d2] }
  | _ => none }
def FnExactAddCorrectionWrongFalsely : Prop := fnExactAddCorrectionRow.holds Try.pinned (OpenSpec.ofChange fnExactAddCorrectionWrong)

/- THE SECOND FORM. 'bulk': how many values and letters a reading holds, each counted each time it is reached (what is shared counts as often as it is met; a slice's spare places count too). A statement '..UptoSaid' is the law's where the arguments, and the package variables that the reading takes, are together of bulk at most 1048576: NARROWER than '..Said'. Prove '..Said' where nothing that the law and all that it calls make is longer than what came in: it says more and counts as full. Else prove '..UptoSaid'. A law counts once. -/
mutual
def uptoBulk {H : Type} : DataW H → Nat
  | .lit (.string bytes) => bytes.length + 1
  | .lit _ => 1
  | .nil => 1
  | .ptr d => uptoBulk d + 1
  | .slice elems spare => uptoBulkAll elems + uptoBulkAll spare + 1
  | .agg parts => uptoBulkAll parts + 1
  | .iface _ d => uptoBulk d + 1
  | .map entries => uptoBulkEntries entries + 1
  | .held _ => 1
def uptoBulkAll {H : Type} : List (DataW H) → Nat
  | [] => 0
  | d :: r => uptoBulk d + uptoBulkAll r
def uptoBulkEntries {H : Type} : List (Lit × DataW H) → Nat
  | [] => 0
  | x :: r => uptoBulkEntry x + uptoBulkEntries r
def uptoBulkEntry {H : Type} : Lit × DataW H → Nat
  | (.string bytes, d) => bytes.length + uptoBulk d + 1
  | (_, d) => uptoBulk d + 1
 end
def uptoSmall : (H : Type) → List (DataW H) → Bool := fun _ ds => decide (uptoBulkAll ds ≤ 1048576)
def OpenSpec.upto (s : _root_.Go.ChangeSpec) : _root_.Go.OpenSpec := { _root_.Go.OpenSpec.ofChange s with cond := some uptoSmall }

/-- 'laws.FnExactAreUses', WHERE WHAT IT READS IS OF BULK AT MOST 1048576: true; the input reads as it did. -/
def fnExactAreUsesUptoRow : OpenClaim := { program := "ythdnjihmjdbdkaa", sum := "85b890b079f66806019312aed9c78e6ddb692b6f62cf15ccb2c1377e1a409e6e", func := "loop.example/g03003/laws.FnExactAreUses", spec := "fnExactAreUses", apart := false, narrowed := true }
def FnExactAreUsesUptoSaid : Prop := fnExactAreUsesUptoRow.holds Try.pinned (OpenSpec.upto fnExactAreUsesSpec)

/-- 'laws.FnExactAreReports', WHERE WHAT IT READS IS OF BULK AT MOST 1048576: true; the input reads as it did. -/
def fnExactAreReportsUptoRow : OpenClaim := { program := "ythdnjihmjdbdkaa", sum := "85b890b079f66806019312aed9c78e6ddb692b6f62cf15ccb2c1377e1a409e6e", func := "loop.example/g03003/laws.FnExactAreReports", spec := "fnExactAreReports", apart := false, narrowed := true }
def FnExactAreReportsUptoSaid : Prop := fnExactAreReportsUptoRow.holds Try.pinned (OpenSpec.upto fnExactAreReportsSpec)

/-- 'laws.FnExactTooSoon', WHERE WHAT IT READS IS OF BULK AT MOST 1048576: true; the input reads as it did. -/
def fnExactTooSoonUptoRow : OpenClaim := { program := "ythdnjihmjdbdkaa", sum := "85b890b079f66806019312aed9c78e6ddb692b6f62cf15ccb2c1377e1a409e6e", func := "loop.example/g03003/laws.FnExactTooSoon", spec := "fnExactTooSoon", unfollowed := true, recurses := true, apart := false, narrowed := true }
def FnExactTooSoonUptoSaid : Prop := fnExactTooSoonUptoRow.holds Try.pinned (OpenSpec.upto fnExactTooSoonSpec)

/-- 'laws.FnExactAddReport', WHERE WHAT IT READS IS OF BULK AT MOST 1048576: true; the input reads as it did. -/
def fnExactAddReportUptoRow : OpenClaim := { program := "ythdnjihmjdbdkaa", sum := "85b890b079f66806019312aed9c78e6ddb692b6f62cf15ccb2c1377e1a409e6e", func := "loop.example/g03003/laws.FnExactAddReport", spec := "fnExactAddReport", apart := false, narrowed := true }
def FnExactAddReportUptoSaid : Prop := fnExactAddReportUptoRow.holds Try.pinned (OpenSpec.upto fnExactAddReportSpec)

/-- 'laws.FnExactEqualDrafts', WHERE WHAT IT READS IS OF BULK AT MOST 1048576: true; the input reads as it did. -/
def fnExactEqualDraftsUptoRow : OpenClaim := { program := "ythdnjihmjdbdkaa", sum := "85b890b079f66806019312aed9c78e6ddb692b6f62cf15ccb2c1377e1a409e6e", func := "loop.example/g03003/laws.FnExactEqualDrafts", spec := "fnExactEqualDrafts", unfollowed := true, recurses := true, apart := false, narrowed := true }
def FnExactEqualDraftsUptoSaid : Prop := fnExactEqualDraftsUptoRow.holds Try.pinned (OpenSpec.upto fnExactEqualDraftsSpec)

/-- 'laws.FnExactAreCorrections', WHERE WHAT IT READS IS OF BULK AT MOST 1048576: true; the input reads as it did. -/
def fnExactAreCorrectionsUptoRow : OpenClaim := { program := "ythdnjihmjdbdkaa", sum := "85b890b079f66806019312aed9c78e6ddb692b6f62cf15ccb2c1377e1a409e6e", func := "loop.example/g03003/laws.FnExactAreCorrections", spec := "fnExactAreCorrections", apart := false, narrowed := true }
def FnExactAreCorrectionsUptoSaid : Prop := fnExactAreCorrectionsUptoRow.holds Try.pinned (OpenSpec.upto fnExactAreCorrectionsSpec)

/-- 'laws.FnExactIsOpen', WHERE WHAT IT READS IS OF BULK AT MOST 1048576: true; the input reads as it did. -/
def fnExactIsOpenUptoRow : OpenClaim := { program := "ythdnjihmjdbdkaa", sum := "85b890b079f66806019312aed9c78e6ddb692b6f62cf15ccb2c1377e1a409e6e", func := "loop.example/g03003/laws.FnExactIsOpen", spec := "fnExactIsOpen", apart := false, narrowed := true }
def FnExactIsOpenUptoSaid : Prop := fnExactIsOpenUptoRow.holds Try.pinned (OpenSpec.upto fnExactIsOpenSpec)

/-- 'laws.FnExactEqualIssues', WHERE WHAT IT READS IS OF BULK AT MOST 1048576: true; the input reads as it did. -/
def fnExactEqualIssuesUptoRow : OpenClaim := { program := "ythdnjihmjdbdkaa", sum := "85b890b079f66806019312aed9c78e6ddb692b6f62cf15ccb2c1377e1a409e6e", func := "loop.example/g03003/laws.FnExactEqualIssues", spec := "fnExactEqualIssues", unfollowed := true, recurses := true, apart := false, narrowed := true }
def FnExactEqualIssuesUptoSaid : Prop := fnExactEqualIssuesUptoRow.holds Try.pinned (OpenSpec.upto fnExactEqualIssuesSpec)

/-- 'laws.FnExactTakeNote', WHERE WHAT IT READS IS OF BULK AT MOST 1048576: true; the input reads as it did. -/
def fnExactTakeNoteUptoRow : OpenClaim := { program := "ythdnjihmjdbdkaa", sum := "85b890b079f66806019312aed9c78e6ddb692b6f62cf15ccb2c1377e1a409e6e", func := "loop.example/g03003/laws.FnExactTakeNote", spec := "fnExactTakeNote", inPlace := ["slices.overlaps[loop.example/g03003/impl.Note]"], apart := false, narrowed := true }
def FnExactTakeNoteUptoSaid : Prop := fnExactTakeNoteUptoRow.holds Try.pinned (OpenSpec.upto fnExactTakeNoteSpec)

/-- 'laws.FnExactAddUses', WHERE WHAT IT READS IS OF BULK AT MOST 1048576: true; the input reads as it did. -/
def fnExactAddUsesUptoRow : OpenClaim := { program := "ythdnjihmjdbdkaa", sum := "85b890b079f66806019312aed9c78e6ddb692b6f62cf15ccb2c1377e1a409e6e", func := "loop.example/g03003/laws.FnExactAddUses", spec := "fnExactAddUses", inPlace := ["slices.overlaps[loop.example/g03003/impl.Used]"], apart := false, narrowed := true }
def FnExactAddUsesUptoSaid : Prop := fnExactAddUsesUptoRow.holds Try.pinned (OpenSpec.upto fnExactAddUsesSpec)

/-- 'laws.FnExactMergeNotes', WHERE WHAT IT READS IS OF BULK AT MOST 1048576: true; the input reads as it did. -/
def fnExactMergeNotesUptoRow : OpenClaim := { program := "ythdnjihmjdbdkaa", sum := "85b890b079f66806019312aed9c78e6ddb692b6f62cf15ccb2c1377e1a409e6e", func := "loop.example/g03003/laws.FnExactMergeNotes", spec := "fnExactMergeNotes", inPlace := ["slices.overlaps[loop.example/g03003/impl.Note]"], apart := false, narrowed := true }
def FnExactMergeNotesUptoSaid : Prop := fnExactMergeNotesUptoRow.holds Try.pinned (OpenSpec.upto fnExactMergeNotesSpec)

/-- 'laws.FnExactAddCorrection', WHERE WHAT IT READS IS OF BULK AT MOST 1048576: true; the input reads as it did. -/
def fnExactAddCorrectionUptoRow : OpenClaim := { program := "ythdnjihmjdbdkaa", sum := "85b890b079f66806019312aed9c78e6ddb692b6f62cf15ccb2c1377e1a409e6e", func := "loop.example/g03003/laws.FnExactAddCorrection", spec := "fnExactAddCorrection", apart := false, narrowed := true }
def FnExactAddCorrectionUptoSaid : Prop := fnExactAddCorrectionUptoRow.holds Try.pinned (OpenSpec.upto fnExactAddCorrectionSpec)

end Rows
end Go.Proofs.Ythdnjihmjdbdkaa
