/- The plain types of the program: structures, kinds, rows of cells, and the types' facts. Conditions: none. -/
import Derived.Test.YthdnjihmjdbdkaaAeEq
import Derived.Test.YthdnjihmjdbdkaaProg
import Derived.KernelRfl
namespace Go.Proofs.Ythdnjihmjdbdkaa.AE
open Go Go.RowKit
set_option linter.unusedVariables false
set_option linter.unusedSimpArgs false

structure D.Report where
  Tester : Int
  Slot : Int
  Kind : Int
  Word : ByteArray
def kReport : AK D.Report := AK.iso (AK.pair (AK.int .i64) (AK.pair (AK.int .i64) (AK.pair (AK.int .i64) AK.string))) (fun x => (x.Tester, x.Slot, x.Kind, x.Word))
def GReport (x : D.Report) : Prop := ((Lit.int .i64 x.Tester).wf = true) ∧ ((Lit.int .i64 x.Slot).wf = true) ∧ ((Lit.int .i64 x.Kind).wf = true) ∧ (x.Word.size ≤ maxLen)
theorem RReport {h : AH} {a : D.Report} {cs : List Value} (hr : kReport.R h a cs) : cs = [Value.int .i64 a.Tester, Value.int .i64 a.Slot, Value.int .i64 a.Kind, Value.string a.Word] := by
  obtain ⟨_, _, rfl, rfl, ⟨_, _, rfl, rfl, ⟨_, _, rfl, rfl, rfl⟩⟩⟩ := hr
  exact rfl
theorem RReport.mk {h : AH} {a : D.Report} : kReport.R h a [Value.int .i64 a.Tester, Value.int .i64 a.Slot, Value.int .i64 a.Kind, Value.string a.Word] := ⟨_, _, rfl, rfl, ⟨_, _, rfl, rfl, ⟨_, _, rfl, rfl, rfl⟩⟩⟩
structure D.Grid where
  Rows : Int
  Cols : Int
  Cells : ByteArray
def kGrid : AK D.Grid := AK.iso (AK.pair (AK.int .i64) (AK.pair (AK.int .i64) AK.string)) (fun x => (x.Rows, x.Cols, x.Cells))
def GGrid (x : D.Grid) : Prop := ((Lit.int .i64 x.Rows).wf = true) ∧ ((Lit.int .i64 x.Cols).wf = true) ∧ (x.Cells.size ≤ maxLen)
theorem RGrid {h : AH} {a : D.Grid} {cs : List Value} (hr : kGrid.R h a cs) : cs = [Value.int .i64 a.Rows, Value.int .i64 a.Cols, Value.string a.Cells] := by
  obtain ⟨_, _, rfl, rfl, ⟨_, _, rfl, rfl, rfl⟩⟩ := hr
  exact rfl
theorem RGrid.mk {h : AH} {a : D.Grid} : kGrid.R h a [Value.int .i64 a.Rows, Value.int .i64 a.Cols, Value.string a.Cells] := ⟨_, _, rfl, rfl, ⟨_, _, rfl, rfl, rfl⟩⟩
structure D.Step where
  Kind : Int
  Word : ByteArray
  A : Int
  B : Int
def kStep : AK D.Step := AK.iso (AK.pair (AK.int .i64) (AK.pair AK.string (AK.pair (AK.int .i64) (AK.int .i64)))) (fun x => (x.Kind, x.Word, x.A, x.B))
def GStep (x : D.Step) : Prop := ((Lit.int .i64 x.Kind).wf = true) ∧ (x.Word.size ≤ maxLen) ∧ ((Lit.int .i64 x.A).wf = true) ∧ ((Lit.int .i64 x.B).wf = true)
theorem RStep {h : AH} {a : D.Step} {cs : List Value} (hr : kStep.R h a cs) : cs = [Value.int .i64 a.Kind, Value.string a.Word, Value.int .i64 a.A, Value.int .i64 a.B] := by
  obtain ⟨_, _, rfl, rfl, ⟨_, _, rfl, rfl, ⟨_, _, rfl, rfl, rfl⟩⟩⟩ := hr
  exact rfl
theorem RStep.mk {h : AH} {a : D.Step} : kStep.R h a [Value.int .i64 a.Kind, Value.string a.Word, Value.int .i64 a.A, Value.int .i64 a.B] := ⟨_, _, rfl, rfl, ⟨_, _, rfl, rfl, ⟨_, _, rfl, rfl, rfl⟩⟩⟩
structure D.Clue where
  Sense : Int
  Play : List D.Step
def kClue : AK D.Clue := AK.iso (AK.pair (AK.int .i64) (AK.slice kStep)) (fun x => (x.Sense, x.Play))
def GClue (x : D.Clue) : Prop := ((Lit.int .i64 x.Sense).wf = true) ∧ ((x.Play.length ≤ maxLen ∧ ∀ y ∈ x.Play, GStep y))
theorem RClue {h : AH} {a : D.Clue} {cs : List Value} (hr : kClue.R h a cs) : ∃ v_Play, cs = [Value.int .i64 a.Sense, v_Play] ∧ SlR kStep h a.Play v_Play := by
  obtain ⟨_, _, rfl, rfl, ⟨_, rfl, h0⟩⟩ := hr
  exact ⟨_, rfl, h0⟩
theorem RClue.mk {h : AH} {a : D.Clue} {v_Play : Value} (h0 : SlR kStep h a.Play v_Play) : kClue.R h a [Value.int .i64 a.Sense, v_Play] := ⟨_, _, rfl, rfl, ⟨_, rfl, h0⟩⟩
structure D.Draft where
  Grid : D.Grid
  Fill : ByteArray
  Clues : List D.Clue
  Version : Int
def kDraft : AK D.Draft := AK.iso (AK.pair kGrid (AK.pair AK.string (AK.pair (AK.slice kClue) (AK.int .i64)))) (fun x => (x.Grid, x.Fill, x.Clues, x.Version))
def GDraft (x : D.Draft) : Prop := (GGrid x.Grid) ∧ (x.Fill.size ≤ maxLen) ∧ ((x.Clues.length ≤ maxLen ∧ ∀ y ∈ x.Clues, GClue y)) ∧ ((Lit.int .i64 x.Version).wf = true)
theorem RDraft {h : AH} {a : D.Draft} {cs : List Value} (hr : kDraft.R h a cs) : ∃ v_Clues, cs = [Value.int .i64 a.Grid.Rows, Value.int .i64 a.Grid.Cols, Value.string a.Grid.Cells, Value.string a.Fill, v_Clues, Value.int .i64 a.Version] ∧ SlR kClue h a.Clues v_Clues := by
  obtain ⟨_, _, rfl, ⟨_, _, rfl, rfl, ⟨_, _, rfl, rfl, rfl⟩⟩, ⟨_, _, rfl, rfl, ⟨_, _, rfl, ⟨_, rfl, h0⟩, rfl⟩⟩⟩ := hr
  exact ⟨_, rfl, h0⟩
theorem RDraft.mk {h : AH} {a : D.Draft} {v_Clues : Value} (h0 : SlR kClue h a.Clues v_Clues) : kDraft.R h a [Value.int .i64 a.Grid.Rows, Value.int .i64 a.Grid.Cols, Value.string a.Grid.Cells, Value.string a.Fill, v_Clues, Value.int .i64 a.Version] := ⟨_, _, rfl, ⟨_, _, rfl, rfl, ⟨_, _, rfl, rfl, rfl⟩⟩, ⟨_, _, rfl, rfl, ⟨_, _, rfl, ⟨_, rfl, h0⟩, rfl⟩⟩⟩
structure D.Puzzle where
  Grid : D.Grid
  Clues : List D.Clue
  Seals : List Int
  Salt : Int
def kPuzzle : AK D.Puzzle := AK.iso (AK.pair kGrid (AK.pair (AK.slice kClue) (AK.pair (AK.slice (AK.int .i64)) (AK.int .i64)))) (fun x => (x.Grid, x.Clues, x.Seals, x.Salt))
def GPuzzle (x : D.Puzzle) : Prop := (GGrid x.Grid) ∧ ((x.Clues.length ≤ maxLen ∧ ∀ y ∈ x.Clues, GClue y)) ∧ ((x.Seals.length ≤ maxLen ∧ ∀ y ∈ x.Seals, (Lit.int .i64 y).wf = true)) ∧ ((Lit.int .i64 x.Salt).wf = true)
theorem RPuzzle {h : AH} {a : D.Puzzle} {cs : List Value} (hr : kPuzzle.R h a cs) : ∃ v_Clues v_Seals, cs = [Value.int .i64 a.Grid.Rows, Value.int .i64 a.Grid.Cols, Value.string a.Grid.Cells, v_Clues, v_Seals, Value.int .i64 a.Salt] ∧ SlR kClue h a.Clues v_Clues ∧ SlR (AK.int .i64) h a.Seals v_Seals := by
  obtain ⟨_, _, rfl, ⟨_, _, rfl, rfl, ⟨_, _, rfl, rfl, rfl⟩⟩, ⟨_, _, rfl, ⟨_, rfl, h0⟩, ⟨_, _, rfl, ⟨_, rfl, h1⟩, rfl⟩⟩⟩ := hr
  exact ⟨_, _, rfl, h0, h1⟩
theorem RPuzzle.mk {h : AH} {a : D.Puzzle} {v_Clues : Value} {v_Seals : Value} (h0 : SlR kClue h a.Clues v_Clues) (h1 : SlR (AK.int .i64) h a.Seals v_Seals) : kPuzzle.R h a [Value.int .i64 a.Grid.Rows, Value.int .i64 a.Grid.Cols, Value.string a.Grid.Cells, v_Clues, v_Seals, Value.int .i64 a.Salt] := ⟨_, _, rfl, ⟨_, _, rfl, rfl, ⟨_, _, rfl, rfl, rfl⟩⟩, ⟨_, _, rfl, ⟨_, rfl, h0⟩, ⟨_, _, rfl, ⟨_, rfl, h1⟩, rfl⟩⟩⟩
structure D.Issue where
  Number : Int
  Puzzle : D.Puzzle
  Fill : ByteArray
  Open : Int
  Close : Int
def kIssue : AK D.Issue := AK.iso (AK.pair (AK.int .i64) (AK.pair kPuzzle (AK.pair AK.string (AK.pair (AK.int .i64) (AK.int .i64))))) (fun x => (x.Number, x.Puzzle, x.Fill, x.Open, x.Close))
def GIssue (x : D.Issue) : Prop := ((Lit.int .i64 x.Number).wf = true) ∧ (GPuzzle x.Puzzle) ∧ (x.Fill.size ≤ maxLen) ∧ ((Lit.int .i64 x.Open).wf = true) ∧ ((Lit.int .i64 x.Close).wf = true)
theorem RIssue {h : AH} {a : D.Issue} {cs : List Value} (hr : kIssue.R h a cs) : ∃ v_Puzzle_Clues v_Puzzle_Seals, cs = [Value.int .i64 a.Number, Value.int .i64 a.Puzzle.Grid.Rows, Value.int .i64 a.Puzzle.Grid.Cols, Value.string a.Puzzle.Grid.Cells, v_Puzzle_Clues, v_Puzzle_Seals, Value.int .i64 a.Puzzle.Salt, Value.string a.Fill, Value.int .i64 a.Open, Value.int .i64 a.Close] ∧ SlR kClue h a.Puzzle.Clues v_Puzzle_Clues ∧ SlR (AK.int .i64) h a.Puzzle.Seals v_Puzzle_Seals := by
  obtain ⟨_, _, rfl, rfl, ⟨_, _, rfl, ⟨_, _, rfl, ⟨_, _, rfl, rfl, ⟨_, _, rfl, rfl, rfl⟩⟩, ⟨_, _, rfl, ⟨_, rfl, h0⟩, ⟨_, _, rfl, ⟨_, rfl, h1⟩, rfl⟩⟩⟩, ⟨_, _, rfl, rfl, ⟨_, _, rfl, rfl, rfl⟩⟩⟩⟩ := hr
  exact ⟨_, _, rfl, h0, h1⟩
theorem RIssue.mk {h : AH} {a : D.Issue} {v_Puzzle_Clues : Value} {v_Puzzle_Seals : Value} (h0 : SlR kClue h a.Puzzle.Clues v_Puzzle_Clues) (h1 : SlR (AK.int .i64) h a.Puzzle.Seals v_Puzzle_Seals) : kIssue.R h a [Value.int .i64 a.Number, Value.int .i64 a.Puzzle.Grid.Rows, Value.int .i64 a.Puzzle.Grid.Cols, Value.string a.Puzzle.Grid.Cells, v_Puzzle_Clues, v_Puzzle_Seals, Value.int .i64 a.Puzzle.Salt, Value.string a.Fill, Value.int .i64 a.Open, Value.int .i64 a.Close] := ⟨_, _, rfl, rfl, ⟨_, _, rfl, ⟨_, _, rfl, ⟨_, _, rfl, rfl, ⟨_, _, rfl, rfl, rfl⟩⟩, ⟨_, _, rfl, ⟨_, rfl, h0⟩, ⟨_, _, rfl, ⟨_, rfl, h1⟩, rfl⟩⟩⟩, ⟨_, _, rfl, rfl, ⟨_, _, rfl, rfl, rfl⟩⟩⟩⟩
structure D.Note where
  Cell : Int
  Letter : ByteArray
  Tick : Int
  Who : Int
def kNote : AK D.Note := AK.iso (AK.pair (AK.int .i64) (AK.pair AK.string (AK.pair (AK.int .i64) (AK.int .i64)))) (fun x => (x.Cell, x.Letter, x.Tick, x.Who))
def GNote (x : D.Note) : Prop := ((Lit.int .i64 x.Cell).wf = true) ∧ (x.Letter.size ≤ maxLen) ∧ ((Lit.int .i64 x.Tick).wf = true) ∧ ((Lit.int .i64 x.Who).wf = true)
theorem RNote {h : AH} {a : D.Note} {cs : List Value} (hr : kNote.R h a cs) : cs = [Value.int .i64 a.Cell, Value.string a.Letter, Value.int .i64 a.Tick, Value.int .i64 a.Who] := by
  obtain ⟨_, _, rfl, rfl, ⟨_, _, rfl, rfl, ⟨_, _, rfl, rfl, rfl⟩⟩⟩ := hr
  exact rfl
theorem RNote.mk {h : AH} {a : D.Note} : kNote.R h a [Value.int .i64 a.Cell, Value.string a.Letter, Value.int .i64 a.Tick, Value.int .i64 a.Who] := ⟨_, _, rfl, rfl, ⟨_, _, rfl, rfl, ⟨_, _, rfl, rfl, rfl⟩⟩⟩
structure D.Correction where
  Issue : Int
  Slot : Int
  Clue : D.Clue
  Tick : Int
def kCorrection : AK D.Correction := AK.iso (AK.pair (AK.int .i64) (AK.pair (AK.int .i64) (AK.pair kClue (AK.int .i64)))) (fun x => (x.Issue, x.Slot, x.Clue, x.Tick))
def GCorrection (x : D.Correction) : Prop := ((Lit.int .i64 x.Issue).wf = true) ∧ ((Lit.int .i64 x.Slot).wf = true) ∧ (GClue x.Clue) ∧ ((Lit.int .i64 x.Tick).wf = true)
theorem RCorrection {h : AH} {a : D.Correction} {cs : List Value} (hr : kCorrection.R h a cs) : ∃ v_Clue_Play, cs = [Value.int .i64 a.Issue, Value.int .i64 a.Slot, Value.int .i64 a.Clue.Sense, v_Clue_Play, Value.int .i64 a.Tick] ∧ SlR kStep h a.Clue.Play v_Clue_Play := by
  obtain ⟨_, _, rfl, rfl, ⟨_, _, rfl, rfl, ⟨_, _, rfl, ⟨_, _, rfl, rfl, ⟨_, rfl, h0⟩⟩, rfl⟩⟩⟩ := hr
  exact ⟨_, rfl, h0⟩
theorem RCorrection.mk {h : AH} {a : D.Correction} {v_Clue_Play : Value} (h0 : SlR kStep h a.Clue.Play v_Clue_Play) : kCorrection.R h a [Value.int .i64 a.Issue, Value.int .i64 a.Slot, Value.int .i64 a.Clue.Sense, v_Clue_Play, Value.int .i64 a.Tick] := ⟨_, _, rfl, rfl, ⟨_, _, rfl, rfl, ⟨_, _, rfl, ⟨_, _, rfl, rfl, ⟨_, rfl, h0⟩⟩, rfl⟩⟩⟩
structure D.Used where
  Word : ByteArray
  Issue : Int
def kUsed : AK D.Used := AK.iso (AK.pair AK.string (AK.int .i64)) (fun x => (x.Word, x.Issue))
def GUsed (x : D.Used) : Prop := (x.Word.size ≤ maxLen) ∧ ((Lit.int .i64 x.Issue).wf = true)
theorem RUsed {h : AH} {a : D.Used} {cs : List Value} (hr : kUsed.R h a cs) : cs = [Value.string a.Word, Value.int .i64 a.Issue] := by
  obtain ⟨_, _, rfl, rfl, rfl⟩ := hr
  exact rfl
theorem RUsed.mk {h : AH} {a : D.Used} : kUsed.R h a [Value.string a.Word, Value.int .i64 a.Issue] := ⟨_, _, rfl, rfl, rfl⟩
theorem ok44 : AOpens Try.prog 44 kReport GReport := aopens_mono (aopens_struct (P := Try.prog) (t := 44) (fun x : D.Report => (x.Tester, x.Slot, x.Kind, x.Word)) (fun x => ⟨x.1, x.2.1, x.2.2.1, x.2.2.2⟩) (fun _ => rfl) Try.underlying44 (by kernel_rfl) (afields_cons rfl (by kernel_rfl) (aopens_int (k := .i64) Try.underlying3) (afields_cons rfl (by kernel_rfl) (aopens_int (k := .i64) Try.underlying3) (afields_cons rfl (by kernel_rfl) (aopens_int (k := .i64) Try.underlying3) (afields_one rfl (by kernel_rfl) (aopens_string Try.underlying9)))))) (fun _ h => h)
theorem ok53 : AOpens Try.prog 53 kGrid GGrid := aopens_mono (aopens_struct (P := Try.prog) (t := 53) (fun x : D.Grid => (x.Rows, x.Cols, x.Cells)) (fun x => ⟨x.1, x.2.1, x.2.2⟩) (fun _ => rfl) Try.underlying53 (by kernel_rfl) (afields_cons rfl (by kernel_rfl) (aopens_int (k := .i64) Try.underlying3) (afields_cons rfl (by kernel_rfl) (aopens_int (k := .i64) Try.underlying3) (afields_one rfl (by kernel_rfl) (aopens_string Try.underlying9))))) (fun _ h => h)
theorem ok182 : AOpens Try.prog 182 kStep GStep := aopens_mono (aopens_struct (P := Try.prog) (t := 182) (fun x : D.Step => (x.Kind, x.Word, x.A, x.B)) (fun x => ⟨x.1, x.2.1, x.2.2.1, x.2.2.2⟩) (fun _ => rfl) Try.underlying182 (by kernel_rfl) (afields_cons rfl (by kernel_rfl) (aopens_int (k := .i64) Try.underlying3) (afields_cons rfl (by kernel_rfl) (aopens_string Try.underlying9) (afields_cons rfl (by kernel_rfl) (aopens_int (k := .i64) Try.underlying3) (afields_one rfl (by kernel_rfl) (aopens_int (k := .i64) Try.underlying3)))))) (fun _ h => h)
theorem ok107 : AOpens Try.prog 107 kClue GClue := aopens_mono (aopens_struct (P := Try.prog) (t := 107) (fun x : D.Clue => (x.Sense, x.Play)) (fun x => ⟨x.1, x.2⟩) (fun _ => rfl) Try.underlying107 (by kernel_rfl) (afields_cons rfl (by kernel_rfl) (aopens_int (k := .i64) Try.underlying3) (afields_one rfl (by kernel_rfl) (aopens_slice Try.underlying105 (by kernel_rfl) (of_decide_eq_true (by kernel_rfl)) ok182)))) (fun _ h => h)
theorem ok56 : AOpens Try.prog 56 kDraft GDraft := aopens_mono (aopens_struct (P := Try.prog) (t := 56) (fun x : D.Draft => (x.Grid, x.Fill, x.Clues, x.Version)) (fun x => ⟨x.1, x.2.1, x.2.2.1, x.2.2.2⟩) (fun _ => rfl) Try.underlying56 (by kernel_rfl) (afields_cons rfl (by kernel_rfl) ok53 (afields_cons rfl (by kernel_rfl) (aopens_string Try.underlying9) (afields_cons rfl (by kernel_rfl) (aopens_slice Try.underlying54 (by kernel_rfl) (of_decide_eq_true (by kernel_rfl)) ok107) (afields_one rfl (by kernel_rfl) (aopens_int (k := .i64) Try.underlying3)))))) (fun _ h => h)
theorem ok74 : AOpens Try.prog 74 kPuzzle GPuzzle := aopens_mono (aopens_struct (P := Try.prog) (t := 74) (fun x : D.Puzzle => (x.Grid, x.Clues, x.Seals, x.Salt)) (fun x => ⟨x.1, x.2.1, x.2.2.1, x.2.2.2⟩) (fun _ => rfl) Try.underlying74 (by kernel_rfl) (afields_cons rfl (by kernel_rfl) ok53 (afields_cons rfl (by kernel_rfl) (aopens_slice Try.underlying54 (by kernel_rfl) (of_decide_eq_true (by kernel_rfl)) ok107) (afields_cons rfl (by kernel_rfl) (aopens_slice Try.underlying72 (by kernel_rfl) (of_decide_eq_true (by kernel_rfl)) (aopens_int (k := .i64) Try.underlying3)) (afields_one rfl (by kernel_rfl) (aopens_int (k := .i64) Try.underlying3)))))) (fun _ h => h)
theorem ok76 : AOpens Try.prog 76 kIssue GIssue := aopens_mono (aopens_struct (P := Try.prog) (t := 76) (fun x : D.Issue => (x.Number, x.Puzzle, x.Fill, x.Open, x.Close)) (fun x => ⟨x.1, x.2.1, x.2.2.1, x.2.2.2.1, x.2.2.2.2⟩) (fun _ => rfl) Try.underlying76 (by kernel_rfl) (afields_cons rfl (by kernel_rfl) (aopens_int (k := .i64) Try.underlying3) (afields_cons rfl (by kernel_rfl) ok74 (afields_cons rfl (by kernel_rfl) (aopens_string Try.underlying9) (afields_cons rfl (by kernel_rfl) (aopens_int (k := .i64) Try.underlying3) (afields_one rfl (by kernel_rfl) (aopens_int (k := .i64) Try.underlying3))))))) (fun _ h => h)
theorem ok89 : AOpens Try.prog 89 kNote GNote := aopens_mono (aopens_struct (P := Try.prog) (t := 89) (fun x : D.Note => (x.Cell, x.Letter, x.Tick, x.Who)) (fun x => ⟨x.1, x.2.1, x.2.2.1, x.2.2.2⟩) (fun _ => rfl) Try.underlying89 (by kernel_rfl) (afields_cons rfl (by kernel_rfl) (aopens_int (k := .i64) Try.underlying3) (afields_cons rfl (by kernel_rfl) (aopens_string Try.underlying9) (afields_cons rfl (by kernel_rfl) (aopens_int (k := .i64) Try.underlying3) (afields_one rfl (by kernel_rfl) (aopens_int (k := .i64) Try.underlying3)))))) (fun _ h => h)
theorem ok109 : AOpens Try.prog 109 kCorrection GCorrection := aopens_mono (aopens_struct (P := Try.prog) (t := 109) (fun x : D.Correction => (x.Issue, x.Slot, x.Clue, x.Tick)) (fun x => ⟨x.1, x.2.1, x.2.2.1, x.2.2.2⟩) (fun _ => rfl) Try.underlying109 (by kernel_rfl) (afields_cons rfl (by kernel_rfl) (aopens_int (k := .i64) Try.underlying3) (afields_cons rfl (by kernel_rfl) (aopens_int (k := .i64) Try.underlying3) (afields_cons rfl (by kernel_rfl) ok107 (afields_one rfl (by kernel_rfl) (aopens_int (k := .i64) Try.underlying3)))))) (fun _ h => h)
theorem ok125 : AOpens Try.prog 125 kUsed GUsed := aopens_mono (aopens_struct (P := Try.prog) (t := 125) (fun x : D.Used => (x.Word, x.Issue)) (fun x => ⟨x.1, x.2⟩) (fun _ => rfl) Try.underlying125 (by kernel_rfl) (afields_cons rfl (by kernel_rfl) (aopens_string Try.underlying9) (afields_one rfl (by kernel_rfl) (aopens_int (k := .i64) Try.underlying3)))) (fun _ h => h)
/-! ### facts of the types -/
theorem st1 : isStruct Try.prog 1 = some false := by kernel_rfl
theorem sz1 : Try.prog.cellsOf 1 = 1 := by kernel_rfl
theorem if1 : (Try.prog.info? 1).isSome = true := by kernel_rfl
theorem st2 : isStruct Try.prog 2 = some false := by kernel_rfl
theorem sz2 : Try.prog.cellsOf 2 = 1 := by kernel_rfl
theorem if2 : (Try.prog.info? 2).isSome = true := by kernel_rfl
theorem zo2 : zeroOf Try.prog 2 = some (.int .i64 0) := by kernel_rfl
theorem zc2 : closedV (.int .i64 0) = true := by kernel_rfl
theorem st3 : isStruct Try.prog 3 = some false := by kernel_rfl
theorem sz3 : Try.prog.cellsOf 3 = 1 := by kernel_rfl
theorem if3 : (Try.prog.info? 3).isSome = true := by kernel_rfl
theorem zo3 : zeroOf Try.prog 3 = some (.int .i64 0) := by kernel_rfl
theorem zc3 : closedV (.int .i64 0) = true := by kernel_rfl
theorem st4 : isStruct Try.prog 4 = some false := by kernel_rfl
theorem sz4 : Try.prog.cellsOf 4 = 1 := by kernel_rfl
theorem if4 : (Try.prog.info? 4).isSome = true := by kernel_rfl
theorem zo4 : zeroOf Try.prog 4 = some (.bool false) := by kernel_rfl
theorem zc4 : closedV (.bool false) = true := by kernel_rfl
theorem st5 : isStruct Try.prog 5 = some false := by kernel_rfl
theorem sz5 : Try.prog.cellsOf 5 = 1 := by kernel_rfl
theorem if5 : (Try.prog.info? 5).isSome = true := by kernel_rfl
theorem zo5 : zeroOf Try.prog 5 = some (.int .u8 0) := by kernel_rfl
theorem zc5 : closedV (.int .u8 0) = true := by kernel_rfl
theorem st7 : isStruct Try.prog 7 = some true := by kernel_rfl
theorem sz7 : Try.prog.cellsOf 7 = 4 := by kernel_rfl
theorem if7 : (Try.prog.info? 7).isSome = true := by kernel_rfl
theorem zo7 : zeroOf Try.prog 7 = some (.agg #[.int .i64 0, .int .i64 0, .bool false, .int .u8 0]) := by kernel_rfl
theorem zc7 : closedV (.agg #[.int .i64 0, .int .i64 0, .bool false, .int .u8 0]) = true := by kernel_rfl
theorem st9 : isStruct Try.prog 9 = some false := by kernel_rfl
theorem sz9 : Try.prog.cellsOf 9 = 1 := by kernel_rfl
theorem if9 : (Try.prog.info? 9).isSome = true := by kernel_rfl
theorem zo9 : zeroOf Try.prog 9 = some (.string ByteArray.empty) := by kernel_rfl
theorem zc9 : closedV (.string ByteArray.empty) = true := by kernel_rfl
theorem st12 : isStruct Try.prog 12 = some false := by kernel_rfl
theorem sz12 : Try.prog.cellsOf 12 = 1 := by kernel_rfl
theorem if12 : (Try.prog.info? 12).isSome = true := by kernel_rfl
theorem zo12 : zeroOf Try.prog 12 = some (.int .u64 0) := by kernel_rfl
theorem zc12 : closedV (.int .u64 0) = true := by kernel_rfl
theorem st13 : isStruct Try.prog 13 = some true := by kernel_rfl
theorem sz13 : Try.prog.cellsOf 13 = 2 := by kernel_rfl
theorem if13 : (Try.prog.info? 13).isSome = true := by kernel_rfl
theorem zo13 : zeroOf Try.prog 13 = some (.agg #[.string ByteArray.empty, .int .u64 0]) := by kernel_rfl
theorem zc13 : closedV (.agg #[.string ByteArray.empty, .int .u64 0]) = true := by kernel_rfl
theorem st15 : isStruct Try.prog 15 = some false := by kernel_rfl
theorem sz15 : Try.prog.cellsOf 15 = 1 := by kernel_rfl
theorem if15 : (Try.prog.info? 15).isSome = true := by kernel_rfl
theorem st16 : isStruct Try.prog 16 = some false := by kernel_rfl
theorem sz16 : Try.prog.cellsOf 16 = 1 := by kernel_rfl
theorem if16 : (Try.prog.info? 16).isSome = true := by kernel_rfl
theorem st17 : isStruct Try.prog 17 = some false := by kernel_rfl
theorem sz17 : Try.prog.cellsOf 17 = 1 := by kernel_rfl
theorem if17 : (Try.prog.info? 17).isSome = true := by kernel_rfl
theorem st21 : isStruct Try.prog 21 = some false := by kernel_rfl
theorem sz21 : Try.prog.cellsOf 21 = 1 := by kernel_rfl
theorem if21 : (Try.prog.info? 21).isSome = true := by kernel_rfl
theorem zo21 : zeroOf Try.prog 21 = some (.int .i32 0) := by kernel_rfl
theorem zc21 : closedV (.int .i32 0) = true := by kernel_rfl
theorem st22 : isStruct Try.prog 22 = some false := by kernel_rfl
theorem sz22 : Try.prog.cellsOf 22 = 1 := by kernel_rfl
theorem if22 : (Try.prog.info? 22).isSome = true := by kernel_rfl
theorem zo22 : zeroOf Try.prog 22 = some (.slice none 0 0) := by kernel_rfl
theorem zc22 : closedV (.slice none 0 0) = true := by kernel_rfl
theorem st23 : isStruct Try.prog 23 = some false := by kernel_rfl
theorem sz23 : Try.prog.cellsOf 23 = 1 := by kernel_rfl
theorem if23 : (Try.prog.info? 23).isSome = true := by kernel_rfl
theorem st24 : isStruct Try.prog 24 = some false := by kernel_rfl
theorem sz24 : Try.prog.cellsOf 24 = 1 := by kernel_rfl
theorem if24 : (Try.prog.info? 24).isSome = true := by kernel_rfl
theorem st25 : isStruct Try.prog 25 = some false := by kernel_rfl
theorem sz25 : Try.prog.cellsOf 25 = 1 := by kernel_rfl
theorem if25 : (Try.prog.info? 25).isSome = true := by kernel_rfl
theorem zo25 : zeroOf Try.prog 25 = some (.slice none 0 0) := by kernel_rfl
theorem zc25 : closedV (.slice none 0 0) = true := by kernel_rfl
theorem st26 : isStruct Try.prog 26 = some false := by kernel_rfl
theorem sz26 : Try.prog.cellsOf 26 = 1 := by kernel_rfl
theorem if26 : (Try.prog.info? 26).isSome = true := by kernel_rfl
theorem st27 : isStruct Try.prog 27 = some false := by kernel_rfl
theorem sz27 : Try.prog.cellsOf 27 = 1 := by kernel_rfl
theorem if27 : (Try.prog.info? 27).isSome = true := by kernel_rfl
theorem st28 : isStruct Try.prog 28 = some false := by kernel_rfl
theorem sz28 : Try.prog.cellsOf 28 = 1 := by kernel_rfl
theorem if28 : (Try.prog.info? 28).isSome = true := by kernel_rfl
theorem st29 : isStruct Try.prog 29 = some false := by kernel_rfl
theorem sz29 : Try.prog.cellsOf 29 = 1 := by kernel_rfl
theorem if29 : (Try.prog.info? 29).isSome = true := by kernel_rfl
theorem zo29 : zeroOf Try.prog 29 = some (.slice none 0 0) := by kernel_rfl
theorem zc29 : closedV (.slice none 0 0) = true := by kernel_rfl
theorem st30 : isStruct Try.prog 30 = some false := by kernel_rfl
theorem sz30 : Try.prog.cellsOf 30 = 1 := by kernel_rfl
theorem if30 : (Try.prog.info? 30).isSome = true := by kernel_rfl
theorem st31 : isStruct Try.prog 31 = some false := by kernel_rfl
theorem sz31 : Try.prog.cellsOf 31 = 1 := by kernel_rfl
theorem if31 : (Try.prog.info? 31).isSome = true := by kernel_rfl
theorem st32 : isStruct Try.prog 32 = some false := by kernel_rfl
theorem sz32 : Try.prog.cellsOf 32 = 1 := by kernel_rfl
theorem if32 : (Try.prog.info? 32).isSome = true := by kernel_rfl
theorem zo32 : zeroOf Try.prog 32 = some (.slice none 0 0) := by kernel_rfl
theorem zc32 : closedV (.slice none 0 0) = true := by kernel_rfl
theorem st33 : isStruct Try.prog 33 = some false := by kernel_rfl
theorem sz33 : Try.prog.cellsOf 33 = 1 := by kernel_rfl
theorem if33 : (Try.prog.info? 33).isSome = true := by kernel_rfl
theorem st34 : isStruct Try.prog 34 = some false := by kernel_rfl
theorem sz34 : Try.prog.cellsOf 34 = 1 := by kernel_rfl
theorem if34 : (Try.prog.info? 34).isSome = true := by kernel_rfl
theorem st35 : isStruct Try.prog 35 = some false := by kernel_rfl
theorem sz35 : Try.prog.cellsOf 35 = 1 := by kernel_rfl
theorem if35 : (Try.prog.info? 35).isSome = true := by kernel_rfl
theorem st36 : isStruct Try.prog 36 = some false := by kernel_rfl
theorem sz36 : Try.prog.cellsOf 36 = 1 := by kernel_rfl
theorem if36 : (Try.prog.info? 36).isSome = true := by kernel_rfl
theorem zo36 : zeroOf Try.prog 36 = some (.slice none 0 0) := by kernel_rfl
theorem zc36 : closedV (.slice none 0 0) = true := by kernel_rfl
theorem st37 : isStruct Try.prog 37 = some false := by kernel_rfl
theorem sz37 : Try.prog.cellsOf 37 = 1 := by kernel_rfl
theorem if37 : (Try.prog.info? 37).isSome = true := by kernel_rfl
theorem st38 : isStruct Try.prog 38 = some false := by kernel_rfl
theorem sz38 : Try.prog.cellsOf 38 = 1 := by kernel_rfl
theorem if38 : (Try.prog.info? 38).isSome = true := by kernel_rfl
theorem st39 : isStruct Try.prog 39 = some false := by kernel_rfl
theorem sz39 : Try.prog.cellsOf 39 = 1 := by kernel_rfl
theorem if39 : (Try.prog.info? 39).isSome = true := by kernel_rfl
theorem st40 : isStruct Try.prog 40 = some false := by kernel_rfl
theorem sz40 : Try.prog.cellsOf 40 = 1 := by kernel_rfl
theorem if40 : (Try.prog.info? 40).isSome = true := by kernel_rfl
theorem st41 : isStruct Try.prog 41 = some false := by kernel_rfl
theorem sz41 : Try.prog.cellsOf 41 = 1 := by kernel_rfl
theorem if41 : (Try.prog.info? 41).isSome = true := by kernel_rfl
theorem st42 : isStruct Try.prog 42 = some false := by kernel_rfl
theorem sz42 : Try.prog.cellsOf 42 = 1 := by kernel_rfl
theorem if42 : (Try.prog.info? 42).isSome = true := by kernel_rfl
theorem st43 : isStruct Try.prog 43 = some true := by kernel_rfl
theorem sz43 : Try.prog.cellsOf 43 = 4 := by kernel_rfl
theorem if43 : (Try.prog.info? 43).isSome = true := by kernel_rfl
theorem zo43 : zeroOf Try.prog 43 = some (.agg #[.int .i64 0, .int .i64 0, .int .i64 0, .string ByteArray.empty]) := by kernel_rfl
theorem zc43 : closedV (.agg #[.int .i64 0, .int .i64 0, .int .i64 0, .string ByteArray.empty]) = true := by kernel_rfl
theorem st44 : isStruct Try.prog 44 = some true := by kernel_rfl
theorem sz44 : Try.prog.cellsOf 44 = 4 := by kernel_rfl
theorem if44 : (Try.prog.info? 44).isSome = true := by kernel_rfl
theorem zo44 : zeroOf Try.prog 44 = some (.agg #[.int .i64 0, .int .i64 0, .int .i64 0, .string ByteArray.empty]) := by kernel_rfl
theorem zc44 : closedV (.agg #[.int .i64 0, .int .i64 0, .int .i64 0, .string ByteArray.empty]) = true := by kernel_rfl
theorem st45 : isStruct Try.prog 45 = some false := by kernel_rfl
theorem sz45 : Try.prog.cellsOf 45 = 1 := by kernel_rfl
theorem if45 : (Try.prog.info? 45).isSome = true := by kernel_rfl
theorem st47 : isStruct Try.prog 47 = some false := by kernel_rfl
theorem sz47 : Try.prog.cellsOf 47 = 1 := by kernel_rfl
theorem if47 : (Try.prog.info? 47).isSome = true := by kernel_rfl
theorem st48 : isStruct Try.prog 48 = some true := by kernel_rfl
theorem sz48 : Try.prog.cellsOf 48 = 4 := by kernel_rfl
theorem if48 : (Try.prog.info? 48).isSome = true := by kernel_rfl
theorem zo48 : zeroOf Try.prog 48 = some (.agg #[.int .i64 0, .int .i64 0, .int .i64 0, .string ByteArray.empty]) := by kernel_rfl
theorem zc48 : closedV (.agg #[.int .i64 0, .int .i64 0, .int .i64 0, .string ByteArray.empty]) = true := by kernel_rfl
theorem st49 : isStruct Try.prog 49 = some false := by kernel_rfl
theorem sz49 : Try.prog.cellsOf 49 = 1 := by kernel_rfl
theorem if49 : (Try.prog.info? 49).isSome = true := by kernel_rfl
theorem st50 : isStruct Try.prog 50 = some false := by kernel_rfl
theorem sz50 : Try.prog.cellsOf 50 = 1 := by kernel_rfl
theorem if50 : (Try.prog.info? 50).isSome = true := by kernel_rfl
theorem st51 : isStruct Try.prog 51 = some false := by kernel_rfl
theorem sz51 : Try.prog.cellsOf 51 = 1 := by kernel_rfl
theorem if51 : (Try.prog.info? 51).isSome = true := by kernel_rfl
theorem st52 : isStruct Try.prog 52 = some true := by kernel_rfl
theorem sz52 : Try.prog.cellsOf 52 = 3 := by kernel_rfl
theorem if52 : (Try.prog.info? 52).isSome = true := by kernel_rfl
theorem zo52 : zeroOf Try.prog 52 = some (.agg #[.int .i64 0, .int .i64 0, .string ByteArray.empty]) := by kernel_rfl
theorem zc52 : closedV (.agg #[.int .i64 0, .int .i64 0, .string ByteArray.empty]) = true := by kernel_rfl
theorem st53 : isStruct Try.prog 53 = some true := by kernel_rfl
theorem sz53 : Try.prog.cellsOf 53 = 3 := by kernel_rfl
theorem if53 : (Try.prog.info? 53).isSome = true := by kernel_rfl
theorem zo53 : zeroOf Try.prog 53 = some (.agg #[.int .i64 0, .int .i64 0, .string ByteArray.empty]) := by kernel_rfl
theorem zc53 : closedV (.agg #[.int .i64 0, .int .i64 0, .string ByteArray.empty]) = true := by kernel_rfl
theorem st54 : isStruct Try.prog 54 = some false := by kernel_rfl
theorem sz54 : Try.prog.cellsOf 54 = 1 := by kernel_rfl
theorem if54 : (Try.prog.info? 54).isSome = true := by kernel_rfl
theorem zo54 : zeroOf Try.prog 54 = some (.slice none 0 0) := by kernel_rfl
theorem zc54 : closedV (.slice none 0 0) = true := by kernel_rfl
theorem st55 : isStruct Try.prog 55 = some true := by kernel_rfl
theorem sz55 : Try.prog.cellsOf 55 = 6 := by kernel_rfl
theorem if55 : (Try.prog.info? 55).isSome = true := by kernel_rfl
theorem zo55 : zeroOf Try.prog 55 = some (.agg #[.int .i64 0, .int .i64 0, .string ByteArray.empty, .string ByteArray.empty, .slice none 0 0, .int .i64 0]) := by kernel_rfl
theorem zc55 : closedV (.agg #[.int .i64 0, .int .i64 0, .string ByteArray.empty, .string ByteArray.empty, .slice none 0 0, .int .i64 0]) = true := by kernel_rfl
theorem st56 : isStruct Try.prog 56 = some true := by kernel_rfl
theorem sz56 : Try.prog.cellsOf 56 = 6 := by kernel_rfl
theorem if56 : (Try.prog.info? 56).isSome = true := by kernel_rfl
theorem zo56 : zeroOf Try.prog 56 = some (.agg #[.int .i64 0, .int .i64 0, .string ByteArray.empty, .string ByteArray.empty, .slice none 0 0, .int .i64 0]) := by kernel_rfl
theorem zc56 : closedV (.agg #[.int .i64 0, .int .i64 0, .string ByteArray.empty, .string ByteArray.empty, .slice none 0 0, .int .i64 0]) = true := by kernel_rfl
theorem st57 : isStruct Try.prog 57 = some false := by kernel_rfl
theorem sz57 : Try.prog.cellsOf 57 = 1 := by kernel_rfl
theorem if57 : (Try.prog.info? 57).isSome = true := by kernel_rfl
theorem st58 : isStruct Try.prog 58 = some false := by kernel_rfl
theorem sz58 : Try.prog.cellsOf 58 = 1 := by kernel_rfl
theorem if58 : (Try.prog.info? 58).isSome = true := by kernel_rfl
theorem st59 : isStruct Try.prog 59 = some true := by kernel_rfl
theorem sz59 : Try.prog.cellsOf 59 = 3 := by kernel_rfl
theorem if59 : (Try.prog.info? 59).isSome = true := by kernel_rfl
theorem zo59 : zeroOf Try.prog 59 = some (.agg #[.int .i64 0, .int .i64 0, .string ByteArray.empty]) := by kernel_rfl
theorem zc59 : closedV (.agg #[.int .i64 0, .int .i64 0, .string ByteArray.empty]) = true := by kernel_rfl
theorem st60 : isStruct Try.prog 60 = some false := by kernel_rfl
theorem sz60 : Try.prog.cellsOf 60 = 1 := by kernel_rfl
theorem if60 : (Try.prog.info? 60).isSome = true := by kernel_rfl
theorem zo60 : zeroOf Try.prog 60 = some (.slice none 0 0) := by kernel_rfl
theorem zc60 : closedV (.slice none 0 0) = true := by kernel_rfl
theorem st61 : isStruct Try.prog 61 = some true := by kernel_rfl
theorem sz61 : Try.prog.cellsOf 61 = 6 := by kernel_rfl
theorem if61 : (Try.prog.info? 61).isSome = true := by kernel_rfl
theorem zo61 : zeroOf Try.prog 61 = some (.agg #[.int .i64 0, .int .i64 0, .string ByteArray.empty, .string ByteArray.empty, .slice none 0 0, .int .i64 0]) := by kernel_rfl
theorem zc61 : closedV (.agg #[.int .i64 0, .int .i64 0, .string ByteArray.empty, .string ByteArray.empty, .slice none 0 0, .int .i64 0]) = true := by kernel_rfl
theorem st62 : isStruct Try.prog 62 = some true := by kernel_rfl
theorem sz62 : Try.prog.cellsOf 62 = 6 := by kernel_rfl
theorem if62 : (Try.prog.info? 62).isSome = true := by kernel_rfl
theorem zo62 : zeroOf Try.prog 62 = some (.agg #[.int .i64 0, .int .i64 0, .string ByteArray.empty, .string ByteArray.empty, .slice none 0 0, .int .i64 0]) := by kernel_rfl
theorem zc62 : closedV (.agg #[.int .i64 0, .int .i64 0, .string ByteArray.empty, .string ByteArray.empty, .slice none 0 0, .int .i64 0]) = true := by kernel_rfl
theorem st63 : isStruct Try.prog 63 = some false := by kernel_rfl
theorem sz63 : Try.prog.cellsOf 63 = 1 := by kernel_rfl
theorem if63 : (Try.prog.info? 63).isSome = true := by kernel_rfl
theorem st64 : isStruct Try.prog 64 = some false := by kernel_rfl
theorem sz64 : Try.prog.cellsOf 64 = 1 := by kernel_rfl
theorem if64 : (Try.prog.info? 64).isSome = true := by kernel_rfl
theorem st65 : isStruct Try.prog 65 = some false := by kernel_rfl
theorem sz65 : Try.prog.cellsOf 65 = 1 := by kernel_rfl
theorem if65 : (Try.prog.info? 65).isSome = true := by kernel_rfl
theorem zo65 : zeroOf Try.prog 65 = some (.slice none 0 0) := by kernel_rfl
theorem zc65 : closedV (.slice none 0 0) = true := by kernel_rfl
theorem st66 : isStruct Try.prog 66 = some false := by kernel_rfl
theorem sz66 : Try.prog.cellsOf 66 = 1 := by kernel_rfl
theorem if66 : (Try.prog.info? 66).isSome = true := by kernel_rfl
theorem st67 : isStruct Try.prog 67 = some false := by kernel_rfl
theorem sz67 : Try.prog.cellsOf 67 = 1 := by kernel_rfl
theorem if67 : (Try.prog.info? 67).isSome = true := by kernel_rfl
theorem st68 : isStruct Try.prog 68 = some false := by kernel_rfl
theorem sz68 : Try.prog.cellsOf 68 = 1 := by kernel_rfl
theorem if68 : (Try.prog.info? 68).isSome = true := by kernel_rfl
theorem zo68 : zeroOf Try.prog 68 = some (.slice none 0 0) := by kernel_rfl
theorem zc68 : closedV (.slice none 0 0) = true := by kernel_rfl
theorem st69 : isStruct Try.prog 69 = some false := by kernel_rfl
theorem sz69 : Try.prog.cellsOf 69 = 1 := by kernel_rfl
theorem if69 : (Try.prog.info? 69).isSome = true := by kernel_rfl
theorem st70 : isStruct Try.prog 70 = some false := by kernel_rfl
theorem sz70 : Try.prog.cellsOf 70 = 1 := by kernel_rfl
theorem if70 : (Try.prog.info? 70).isSome = true := by kernel_rfl
theorem st71 : isStruct Try.prog 71 = some false := by kernel_rfl
theorem sz71 : Try.prog.cellsOf 71 = 1 := by kernel_rfl
theorem if71 : (Try.prog.info? 71).isSome = true := by kernel_rfl
theorem st72 : isStruct Try.prog 72 = some false := by kernel_rfl
theorem sz72 : Try.prog.cellsOf 72 = 1 := by kernel_rfl
theorem if72 : (Try.prog.info? 72).isSome = true := by kernel_rfl
theorem zo72 : zeroOf Try.prog 72 = some (.slice none 0 0) := by kernel_rfl
theorem zc72 : closedV (.slice none 0 0) = true := by kernel_rfl
theorem st73 : isStruct Try.prog 73 = some true := by kernel_rfl
theorem sz73 : Try.prog.cellsOf 73 = 6 := by kernel_rfl
theorem if73 : (Try.prog.info? 73).isSome = true := by kernel_rfl
theorem zo73 : zeroOf Try.prog 73 = some (.agg #[.int .i64 0, .int .i64 0, .string ByteArray.empty, .slice none 0 0, .slice none 0 0, .int .i64 0]) := by kernel_rfl
theorem zc73 : closedV (.agg #[.int .i64 0, .int .i64 0, .string ByteArray.empty, .slice none 0 0, .slice none 0 0, .int .i64 0]) = true := by kernel_rfl
theorem st74 : isStruct Try.prog 74 = some true := by kernel_rfl
theorem sz74 : Try.prog.cellsOf 74 = 6 := by kernel_rfl
theorem if74 : (Try.prog.info? 74).isSome = true := by kernel_rfl
theorem zo74 : zeroOf Try.prog 74 = some (.agg #[.int .i64 0, .int .i64 0, .string ByteArray.empty, .slice none 0 0, .slice none 0 0, .int .i64 0]) := by kernel_rfl
theorem zc74 : closedV (.agg #[.int .i64 0, .int .i64 0, .string ByteArray.empty, .slice none 0 0, .slice none 0 0, .int .i64 0]) = true := by kernel_rfl
theorem st75 : isStruct Try.prog 75 = some true := by kernel_rfl
theorem sz75 : Try.prog.cellsOf 75 = 10 := by kernel_rfl
theorem if75 : (Try.prog.info? 75).isSome = true := by kernel_rfl
theorem zo75 : zeroOf Try.prog 75 = some (.agg #[.int .i64 0, .int .i64 0, .int .i64 0, .string ByteArray.empty, .slice none 0 0, .slice none 0 0, .int .i64 0, .string ByteArray.empty, .int .i64 0, .int .i64 0]) := by kernel_rfl
theorem zc75 : closedV (.agg #[.int .i64 0, .int .i64 0, .int .i64 0, .string ByteArray.empty, .slice none 0 0, .slice none 0 0, .int .i64 0, .string ByteArray.empty, .int .i64 0, .int .i64 0]) = true := by kernel_rfl
theorem st76 : isStruct Try.prog 76 = some true := by kernel_rfl
theorem sz76 : Try.prog.cellsOf 76 = 10 := by kernel_rfl
theorem if76 : (Try.prog.info? 76).isSome = true := by kernel_rfl
theorem zo76 : zeroOf Try.prog 76 = some (.agg #[.int .i64 0, .int .i64 0, .int .i64 0, .string ByteArray.empty, .slice none 0 0, .slice none 0 0, .int .i64 0, .string ByteArray.empty, .int .i64 0, .int .i64 0]) := by kernel_rfl
theorem zc76 : closedV (.agg #[.int .i64 0, .int .i64 0, .int .i64 0, .string ByteArray.empty, .slice none 0 0, .slice none 0 0, .int .i64 0, .string ByteArray.empty, .int .i64 0, .int .i64 0]) = true := by kernel_rfl
theorem st77 : isStruct Try.prog 77 = some false := by kernel_rfl
theorem sz77 : Try.prog.cellsOf 77 = 1 := by kernel_rfl
theorem if77 : (Try.prog.info? 77).isSome = true := by kernel_rfl
theorem st78 : isStruct Try.prog 78 = some false := by kernel_rfl
theorem sz78 : Try.prog.cellsOf 78 = 1 := by kernel_rfl
theorem if78 : (Try.prog.info? 78).isSome = true := by kernel_rfl
theorem st79 : isStruct Try.prog 79 = some true := by kernel_rfl
theorem sz79 : Try.prog.cellsOf 79 = 6 := by kernel_rfl
theorem if79 : (Try.prog.info? 79).isSome = true := by kernel_rfl
theorem zo79 : zeroOf Try.prog 79 = some (.agg #[.int .i64 0, .int .i64 0, .string ByteArray.empty, .slice none 0 0, .slice none 0 0, .int .i64 0]) := by kernel_rfl
theorem zc79 : closedV (.agg #[.int .i64 0, .int .i64 0, .string ByteArray.empty, .slice none 0 0, .slice none 0 0, .int .i64 0]) = true := by kernel_rfl
theorem st80 : isStruct Try.prog 80 = some true := by kernel_rfl
theorem sz80 : Try.prog.cellsOf 80 = 6 := by kernel_rfl
theorem if80 : (Try.prog.info? 80).isSome = true := by kernel_rfl
theorem zo80 : zeroOf Try.prog 80 = some (.agg #[.int .i64 0, .int .i64 0, .string ByteArray.empty, .slice none 0 0, .slice none 0 0, .int .i64 0]) := by kernel_rfl
theorem zc80 : closedV (.agg #[.int .i64 0, .int .i64 0, .string ByteArray.empty, .slice none 0 0, .slice none 0 0, .int .i64 0]) = true := by kernel_rfl
theorem st81 : isStruct Try.prog 81 = some true := by kernel_rfl
theorem sz81 : Try.prog.cellsOf 81 = 10 := by kernel_rfl
theorem if81 : (Try.prog.info? 81).isSome = true := by kernel_rfl
theorem zo81 : zeroOf Try.prog 81 = some (.agg #[.int .i64 0, .int .i64 0, .int .i64 0, .string ByteArray.empty, .slice none 0 0, .slice none 0 0, .int .i64 0, .string ByteArray.empty, .int .i64 0, .int .i64 0]) := by kernel_rfl
theorem zc81 : closedV (.agg #[.int .i64 0, .int .i64 0, .int .i64 0, .string ByteArray.empty, .slice none 0 0, .slice none 0 0, .int .i64 0, .string ByteArray.empty, .int .i64 0, .int .i64 0]) = true := by kernel_rfl
theorem st82 : isStruct Try.prog 82 = some true := by kernel_rfl
theorem sz82 : Try.prog.cellsOf 82 = 10 := by kernel_rfl
theorem if82 : (Try.prog.info? 82).isSome = true := by kernel_rfl
theorem zo82 : zeroOf Try.prog 82 = some (.agg #[.int .i64 0, .int .i64 0, .int .i64 0, .string ByteArray.empty, .slice none 0 0, .slice none 0 0, .int .i64 0, .string ByteArray.empty, .int .i64 0, .int .i64 0]) := by kernel_rfl
theorem zc82 : closedV (.agg #[.int .i64 0, .int .i64 0, .int .i64 0, .string ByteArray.empty, .slice none 0 0, .slice none 0 0, .int .i64 0, .string ByteArray.empty, .int .i64 0, .int .i64 0]) = true := by kernel_rfl
theorem st83 : isStruct Try.prog 83 = some false := by kernel_rfl
theorem sz83 : Try.prog.cellsOf 83 = 1 := by kernel_rfl
theorem if83 : (Try.prog.info? 83).isSome = true := by kernel_rfl
theorem st84 : isStruct Try.prog 84 = some false := by kernel_rfl
theorem sz84 : Try.prog.cellsOf 84 = 1 := by kernel_rfl
theorem if84 : (Try.prog.info? 84).isSome = true := by kernel_rfl
theorem st85 : isStruct Try.prog 85 = some false := by kernel_rfl
theorem sz85 : Try.prog.cellsOf 85 = 1 := by kernel_rfl
theorem if85 : (Try.prog.info? 85).isSome = true := by kernel_rfl
theorem st86 : isStruct Try.prog 86 = some false := by kernel_rfl
theorem sz86 : Try.prog.cellsOf 86 = 1 := by kernel_rfl
theorem if86 : (Try.prog.info? 86).isSome = true := by kernel_rfl
theorem st87 : isStruct Try.prog 87 = some false := by kernel_rfl
theorem sz87 : Try.prog.cellsOf 87 = 1 := by kernel_rfl
theorem if87 : (Try.prog.info? 87).isSome = true := by kernel_rfl
theorem zo87 : zeroOf Try.prog 87 = some (.slice none 0 0) := by kernel_rfl
theorem zc87 : closedV (.slice none 0 0) = true := by kernel_rfl
theorem st88 : isStruct Try.prog 88 = some true := by kernel_rfl
theorem sz88 : Try.prog.cellsOf 88 = 4 := by kernel_rfl
theorem if88 : (Try.prog.info? 88).isSome = true := by kernel_rfl
theorem zo88 : zeroOf Try.prog 88 = some (.agg #[.int .i64 0, .string ByteArray.empty, .int .i64 0, .int .i64 0]) := by kernel_rfl
theorem zc88 : closedV (.agg #[.int .i64 0, .string ByteArray.empty, .int .i64 0, .int .i64 0]) = true := by kernel_rfl
theorem st89 : isStruct Try.prog 89 = some true := by kernel_rfl
theorem sz89 : Try.prog.cellsOf 89 = 4 := by kernel_rfl
theorem if89 : (Try.prog.info? 89).isSome = true := by kernel_rfl
theorem zo89 : zeroOf Try.prog 89 = some (.agg #[.int .i64 0, .string ByteArray.empty, .int .i64 0, .int .i64 0]) := by kernel_rfl
theorem zc89 : closedV (.agg #[.int .i64 0, .string ByteArray.empty, .int .i64 0, .int .i64 0]) = true := by kernel_rfl
theorem st90 : isStruct Try.prog 90 = some false := by kernel_rfl
theorem sz90 : Try.prog.cellsOf 90 = 1 := by kernel_rfl
theorem if90 : (Try.prog.info? 90).isSome = true := by kernel_rfl
theorem st91 : isStruct Try.prog 91 = some false := by kernel_rfl
theorem sz91 : Try.prog.cellsOf 91 = 1 := by kernel_rfl
theorem if91 : (Try.prog.info? 91).isSome = true := by kernel_rfl
theorem st92 : isStruct Try.prog 92 = some false := by kernel_rfl
theorem sz92 : Try.prog.cellsOf 92 = 1 := by kernel_rfl
theorem if92 : (Try.prog.info? 92).isSome = true := by kernel_rfl
theorem zo92 : zeroOf Try.prog 92 = some (.slice none 0 0) := by kernel_rfl
theorem zc92 : closedV (.slice none 0 0) = true := by kernel_rfl
theorem st93 : isStruct Try.prog 93 = some false := by kernel_rfl
theorem sz93 : Try.prog.cellsOf 93 = 1 := by kernel_rfl
theorem if93 : (Try.prog.info? 93).isSome = true := by kernel_rfl
theorem st94 : isStruct Try.prog 94 = some false := by kernel_rfl
theorem sz94 : Try.prog.cellsOf 94 = 1 := by kernel_rfl
theorem if94 : (Try.prog.info? 94).isSome = true := by kernel_rfl
theorem st95 : isStruct Try.prog 95 = some true := by kernel_rfl
theorem sz95 : Try.prog.cellsOf 95 = 4 := by kernel_rfl
theorem if95 : (Try.prog.info? 95).isSome = true := by kernel_rfl
theorem zo95 : zeroOf Try.prog 95 = some (.agg #[.int .i64 0, .string ByteArray.empty, .int .i64 0, .int .i64 0]) := by kernel_rfl
theorem zc95 : closedV (.agg #[.int .i64 0, .string ByteArray.empty, .int .i64 0, .int .i64 0]) = true := by kernel_rfl
theorem st96 : isStruct Try.prog 96 = some false := by kernel_rfl
theorem sz96 : Try.prog.cellsOf 96 = 1 := by kernel_rfl
theorem if96 : (Try.prog.info? 96).isSome = true := by kernel_rfl
theorem st97 : isStruct Try.prog 97 = some false := by kernel_rfl
theorem sz97 : Try.prog.cellsOf 97 = 1 := by kernel_rfl
theorem if97 : (Try.prog.info? 97).isSome = true := by kernel_rfl
theorem st98 : isStruct Try.prog 98 = some false := by kernel_rfl
theorem sz98 : Try.prog.cellsOf 98 = 1 := by kernel_rfl
theorem if98 : (Try.prog.info? 98).isSome = true := by kernel_rfl
theorem st99 : isStruct Try.prog 99 = some false := by kernel_rfl
theorem sz99 : Try.prog.cellsOf 99 = 1 := by kernel_rfl
theorem if99 : (Try.prog.info? 99).isSome = true := by kernel_rfl
theorem st101 : isStruct Try.prog 101 = some false := by kernel_rfl
theorem sz101 : Try.prog.cellsOf 101 = 1 := by kernel_rfl
theorem if101 : (Try.prog.info? 101).isSome = true := by kernel_rfl
theorem st102 : isStruct Try.prog 102 = some false := by kernel_rfl
theorem sz102 : Try.prog.cellsOf 102 = 1 := by kernel_rfl
theorem if102 : (Try.prog.info? 102).isSome = true := by kernel_rfl
theorem st103 : isStruct Try.prog 103 = some false := by kernel_rfl
theorem sz103 : Try.prog.cellsOf 103 = 1 := by kernel_rfl
theorem if103 : (Try.prog.info? 103).isSome = true := by kernel_rfl
theorem st104 : isStruct Try.prog 104 = some false := by kernel_rfl
theorem sz104 : Try.prog.cellsOf 104 = 1 := by kernel_rfl
theorem if104 : (Try.prog.info? 104).isSome = true := by kernel_rfl
theorem st105 : isStruct Try.prog 105 = some false := by kernel_rfl
theorem sz105 : Try.prog.cellsOf 105 = 1 := by kernel_rfl
theorem if105 : (Try.prog.info? 105).isSome = true := by kernel_rfl
theorem zo105 : zeroOf Try.prog 105 = some (.slice none 0 0) := by kernel_rfl
theorem zc105 : closedV (.slice none 0 0) = true := by kernel_rfl
theorem st106 : isStruct Try.prog 106 = some true := by kernel_rfl
theorem sz106 : Try.prog.cellsOf 106 = 2 := by kernel_rfl
theorem if106 : (Try.prog.info? 106).isSome = true := by kernel_rfl
theorem zo106 : zeroOf Try.prog 106 = some (.agg #[.int .i64 0, .slice none 0 0]) := by kernel_rfl
theorem zc106 : closedV (.agg #[.int .i64 0, .slice none 0 0]) = true := by kernel_rfl
theorem st107 : isStruct Try.prog 107 = some true := by kernel_rfl
theorem sz107 : Try.prog.cellsOf 107 = 2 := by kernel_rfl
theorem if107 : (Try.prog.info? 107).isSome = true := by kernel_rfl
theorem zo107 : zeroOf Try.prog 107 = some (.agg #[.int .i64 0, .slice none 0 0]) := by kernel_rfl
theorem zc107 : closedV (.agg #[.int .i64 0, .slice none 0 0]) = true := by kernel_rfl
theorem st108 : isStruct Try.prog 108 = some true := by kernel_rfl
theorem sz108 : Try.prog.cellsOf 108 = 5 := by kernel_rfl
theorem if108 : (Try.prog.info? 108).isSome = true := by kernel_rfl
theorem zo108 : zeroOf Try.prog 108 = some (.agg #[.int .i64 0, .int .i64 0, .int .i64 0, .slice none 0 0, .int .i64 0]) := by kernel_rfl
theorem zc108 : closedV (.agg #[.int .i64 0, .int .i64 0, .int .i64 0, .slice none 0 0, .int .i64 0]) = true := by kernel_rfl
theorem st109 : isStruct Try.prog 109 = some true := by kernel_rfl
theorem sz109 : Try.prog.cellsOf 109 = 5 := by kernel_rfl
theorem if109 : (Try.prog.info? 109).isSome = true := by kernel_rfl
theorem zo109 : zeroOf Try.prog 109 = some (.agg #[.int .i64 0, .int .i64 0, .int .i64 0, .slice none 0 0, .int .i64 0]) := by kernel_rfl
theorem zc109 : closedV (.agg #[.int .i64 0, .int .i64 0, .int .i64 0, .slice none 0 0, .int .i64 0]) = true := by kernel_rfl
theorem st110 : isStruct Try.prog 110 = some false := by kernel_rfl
theorem sz110 : Try.prog.cellsOf 110 = 1 := by kernel_rfl
theorem if110 : (Try.prog.info? 110).isSome = true := by kernel_rfl
theorem st112 : isStruct Try.prog 112 = some false := by kernel_rfl
theorem sz112 : Try.prog.cellsOf 112 = 1 := by kernel_rfl
theorem if112 : (Try.prog.info? 112).isSome = true := by kernel_rfl
theorem st113 : isStruct Try.prog 113 = some false := by kernel_rfl
theorem sz113 : Try.prog.cellsOf 113 = 1 := by kernel_rfl
theorem if113 : (Try.prog.info? 113).isSome = true := by kernel_rfl
theorem zo113 : zeroOf Try.prog 113 = some (.slice none 0 0) := by kernel_rfl
theorem zc113 : closedV (.slice none 0 0) = true := by kernel_rfl
theorem st114 : isStruct Try.prog 114 = some true := by kernel_rfl
theorem sz114 : Try.prog.cellsOf 114 = 2 := by kernel_rfl
theorem if114 : (Try.prog.info? 114).isSome = true := by kernel_rfl
theorem zo114 : zeroOf Try.prog 114 = some (.agg #[.int .i64 0, .slice none 0 0]) := by kernel_rfl
theorem zc114 : closedV (.agg #[.int .i64 0, .slice none 0 0]) = true := by kernel_rfl
theorem st115 : isStruct Try.prog 115 = some true := by kernel_rfl
theorem sz115 : Try.prog.cellsOf 115 = 2 := by kernel_rfl
theorem if115 : (Try.prog.info? 115).isSome = true := by kernel_rfl
theorem zo115 : zeroOf Try.prog 115 = some (.agg #[.int .i64 0, .slice none 0 0]) := by kernel_rfl
theorem zc115 : closedV (.agg #[.int .i64 0, .slice none 0 0]) = true := by kernel_rfl
theorem st116 : isStruct Try.prog 116 = some true := by kernel_rfl
theorem sz116 : Try.prog.cellsOf 116 = 5 := by kernel_rfl
theorem if116 : (Try.prog.info? 116).isSome = true := by kernel_rfl
theorem zo116 : zeroOf Try.prog 116 = some (.agg #[.int .i64 0, .int .i64 0, .int .i64 0, .slice none 0 0, .int .i64 0]) := by kernel_rfl
theorem zc116 : closedV (.agg #[.int .i64 0, .int .i64 0, .int .i64 0, .slice none 0 0, .int .i64 0]) = true := by kernel_rfl
theorem st117 : isStruct Try.prog 117 = some true := by kernel_rfl
theorem sz117 : Try.prog.cellsOf 117 = 5 := by kernel_rfl
theorem if117 : (Try.prog.info? 117).isSome = true := by kernel_rfl
theorem zo117 : zeroOf Try.prog 117 = some (.agg #[.int .i64 0, .int .i64 0, .int .i64 0, .slice none 0 0, .int .i64 0]) := by kernel_rfl
theorem zc117 : closedV (.agg #[.int .i64 0, .int .i64 0, .int .i64 0, .slice none 0 0, .int .i64 0]) = true := by kernel_rfl
theorem st118 : isStruct Try.prog 118 = some false := by kernel_rfl
theorem sz118 : Try.prog.cellsOf 118 = 1 := by kernel_rfl
theorem if118 : (Try.prog.info? 118).isSome = true := by kernel_rfl
theorem st119 : isStruct Try.prog 119 = some false := by kernel_rfl
theorem sz119 : Try.prog.cellsOf 119 = 1 := by kernel_rfl
theorem if119 : (Try.prog.info? 119).isSome = true := by kernel_rfl
theorem st120 : isStruct Try.prog 120 = some false := by kernel_rfl
theorem sz120 : Try.prog.cellsOf 120 = 1 := by kernel_rfl
theorem if120 : (Try.prog.info? 120).isSome = true := by kernel_rfl
theorem st121 : isStruct Try.prog 121 = some false := by kernel_rfl
theorem sz121 : Try.prog.cellsOf 121 = 1 := by kernel_rfl
theorem if121 : (Try.prog.info? 121).isSome = true := by kernel_rfl
theorem st122 : isStruct Try.prog 122 = some false := by kernel_rfl
theorem sz122 : Try.prog.cellsOf 122 = 1 := by kernel_rfl
theorem if122 : (Try.prog.info? 122).isSome = true := by kernel_rfl
theorem st123 : isStruct Try.prog 123 = some false := by kernel_rfl
theorem sz123 : Try.prog.cellsOf 123 = 1 := by kernel_rfl
theorem if123 : (Try.prog.info? 123).isSome = true := by kernel_rfl
theorem st124 : isStruct Try.prog 124 = some true := by kernel_rfl
theorem sz124 : Try.prog.cellsOf 124 = 2 := by kernel_rfl
theorem if124 : (Try.prog.info? 124).isSome = true := by kernel_rfl
theorem zo124 : zeroOf Try.prog 124 = some (.agg #[.string ByteArray.empty, .int .i64 0]) := by kernel_rfl
theorem zc124 : closedV (.agg #[.string ByteArray.empty, .int .i64 0]) = true := by kernel_rfl
theorem st125 : isStruct Try.prog 125 = some true := by kernel_rfl
theorem sz125 : Try.prog.cellsOf 125 = 2 := by kernel_rfl
theorem if125 : (Try.prog.info? 125).isSome = true := by kernel_rfl
theorem zo125 : zeroOf Try.prog 125 = some (.agg #[.string ByteArray.empty, .int .i64 0]) := by kernel_rfl
theorem zc125 : closedV (.agg #[.string ByteArray.empty, .int .i64 0]) = true := by kernel_rfl
theorem st126 : isStruct Try.prog 126 = some false := by kernel_rfl
theorem sz126 : Try.prog.cellsOf 126 = 1 := by kernel_rfl
theorem if126 : (Try.prog.info? 126).isSome = true := by kernel_rfl
theorem st127 : isStruct Try.prog 127 = some true := by kernel_rfl
theorem sz127 : Try.prog.cellsOf 127 = 2 := by kernel_rfl
theorem if127 : (Try.prog.info? 127).isSome = true := by kernel_rfl
theorem zo127 : zeroOf Try.prog 127 = some (.agg #[.string ByteArray.empty, .int .i64 0]) := by kernel_rfl
theorem zc127 : closedV (.agg #[.string ByteArray.empty, .int .i64 0]) = true := by kernel_rfl
theorem st128 : isStruct Try.prog 128 = some false := by kernel_rfl
theorem sz128 : Try.prog.cellsOf 128 = 1 := by kernel_rfl
theorem if128 : (Try.prog.info? 128).isSome = true := by kernel_rfl
theorem st129 : isStruct Try.prog 129 = some false := by kernel_rfl
theorem sz129 : Try.prog.cellsOf 129 = 1 := by kernel_rfl
theorem if129 : (Try.prog.info? 129).isSome = true := by kernel_rfl
theorem st130 : isStruct Try.prog 130 = some false := by kernel_rfl
theorem sz130 : Try.prog.cellsOf 130 = 1 := by kernel_rfl
theorem if130 : (Try.prog.info? 130).isSome = true := by kernel_rfl
theorem st131 : isStruct Try.prog 131 = some false := by kernel_rfl
theorem sz131 : Try.prog.cellsOf 131 = 1 := by kernel_rfl
theorem if131 : (Try.prog.info? 131).isSome = true := by kernel_rfl
theorem st132 : isStruct Try.prog 132 = some false := by kernel_rfl
theorem sz132 : Try.prog.cellsOf 132 = 1 := by kernel_rfl
theorem if132 : (Try.prog.info? 132).isSome = true := by kernel_rfl
theorem st133 : isStruct Try.prog 133 = some false := by kernel_rfl
theorem sz133 : Try.prog.cellsOf 133 = 1 := by kernel_rfl
theorem if133 : (Try.prog.info? 133).isSome = true := by kernel_rfl
theorem st134 : isStruct Try.prog 134 = some false := by kernel_rfl
theorem sz134 : Try.prog.cellsOf 134 = 1 := by kernel_rfl
theorem if134 : (Try.prog.info? 134).isSome = true := by kernel_rfl
theorem st135 : isStruct Try.prog 135 = some false := by kernel_rfl
theorem sz135 : Try.prog.cellsOf 135 = 1 := by kernel_rfl
theorem if135 : (Try.prog.info? 135).isSome = true := by kernel_rfl
theorem st136 : isStruct Try.prog 136 = some false := by kernel_rfl
theorem sz136 : Try.prog.cellsOf 136 = 1 := by kernel_rfl
theorem if136 : (Try.prog.info? 136).isSome = true := by kernel_rfl
theorem st137 : isStruct Try.prog 137 = some false := by kernel_rfl
theorem sz137 : Try.prog.cellsOf 137 = 1 := by kernel_rfl
theorem if137 : (Try.prog.info? 137).isSome = true := by kernel_rfl
theorem st138 : isStruct Try.prog 138 = some false := by kernel_rfl
theorem sz138 : Try.prog.cellsOf 138 = 1 := by kernel_rfl
theorem if138 : (Try.prog.info? 138).isSome = true := by kernel_rfl
theorem st139 : isStruct Try.prog 139 = some false := by kernel_rfl
theorem sz139 : Try.prog.cellsOf 139 = 1 := by kernel_rfl
theorem if139 : (Try.prog.info? 139).isSome = true := by kernel_rfl
theorem st140 : isStruct Try.prog 140 = some false := by kernel_rfl
theorem sz140 : Try.prog.cellsOf 140 = 1 := by kernel_rfl
theorem if140 : (Try.prog.info? 140).isSome = true := by kernel_rfl
theorem st141 : isStruct Try.prog 141 = some false := by kernel_rfl
theorem sz141 : Try.prog.cellsOf 141 = 1 := by kernel_rfl
theorem if141 : (Try.prog.info? 141).isSome = true := by kernel_rfl
theorem st142 : isStruct Try.prog 142 = some false := by kernel_rfl
theorem sz142 : Try.prog.cellsOf 142 = 1 := by kernel_rfl
theorem if142 : (Try.prog.info? 142).isSome = true := by kernel_rfl
theorem st143 : isStruct Try.prog 143 = some false := by kernel_rfl
theorem sz143 : Try.prog.cellsOf 143 = 1 := by kernel_rfl
theorem if143 : (Try.prog.info? 143).isSome = true := by kernel_rfl
theorem st144 : isStruct Try.prog 144 = some false := by kernel_rfl
theorem sz144 : Try.prog.cellsOf 144 = 1 := by kernel_rfl
theorem if144 : (Try.prog.info? 144).isSome = true := by kernel_rfl
theorem st145 : isStruct Try.prog 145 = some false := by kernel_rfl
theorem sz145 : Try.prog.cellsOf 145 = 1 := by kernel_rfl
theorem if145 : (Try.prog.info? 145).isSome = true := by kernel_rfl
theorem st146 : isStruct Try.prog 146 = some false := by kernel_rfl
theorem sz146 : Try.prog.cellsOf 146 = 1 := by kernel_rfl
theorem if146 : (Try.prog.info? 146).isSome = true := by kernel_rfl
theorem st147 : isStruct Try.prog 147 = some false := by kernel_rfl
theorem sz147 : Try.prog.cellsOf 147 = 1 := by kernel_rfl
theorem if147 : (Try.prog.info? 147).isSome = true := by kernel_rfl
theorem st148 : isStruct Try.prog 148 = some false := by kernel_rfl
theorem sz148 : Try.prog.cellsOf 148 = 1 := by kernel_rfl
theorem if148 : (Try.prog.info? 148).isSome = true := by kernel_rfl
theorem st149 : isStruct Try.prog 149 = some false := by kernel_rfl
theorem sz149 : Try.prog.cellsOf 149 = 1 := by kernel_rfl
theorem if149 : (Try.prog.info? 149).isSome = true := by kernel_rfl
theorem st150 : isStruct Try.prog 150 = some false := by kernel_rfl
theorem sz150 : Try.prog.cellsOf 150 = 1 := by kernel_rfl
theorem if150 : (Try.prog.info? 150).isSome = true := by kernel_rfl
theorem st151 : isStruct Try.prog 151 = some false := by kernel_rfl
theorem sz151 : Try.prog.cellsOf 151 = 1 := by kernel_rfl
theorem if151 : (Try.prog.info? 151).isSome = true := by kernel_rfl
theorem st152 : isStruct Try.prog 152 = some false := by kernel_rfl
theorem sz152 : Try.prog.cellsOf 152 = 1 := by kernel_rfl
theorem if152 : (Try.prog.info? 152).isSome = true := by kernel_rfl
theorem st153 : isStruct Try.prog 153 = some false := by kernel_rfl
theorem sz153 : Try.prog.cellsOf 153 = 1 := by kernel_rfl
theorem if153 : (Try.prog.info? 153).isSome = true := by kernel_rfl
theorem st154 : isStruct Try.prog 154 = some false := by kernel_rfl
theorem sz154 : Try.prog.cellsOf 154 = 1 := by kernel_rfl
theorem if154 : (Try.prog.info? 154).isSome = true := by kernel_rfl
theorem st155 : isStruct Try.prog 155 = some false := by kernel_rfl
theorem sz155 : Try.prog.cellsOf 155 = 1 := by kernel_rfl
theorem if155 : (Try.prog.info? 155).isSome = true := by kernel_rfl
theorem st156 : isStruct Try.prog 156 = some false := by kernel_rfl
theorem sz156 : Try.prog.cellsOf 156 = 1 := by kernel_rfl
theorem if156 : (Try.prog.info? 156).isSome = true := by kernel_rfl
theorem st157 : isStruct Try.prog 157 = some false := by kernel_rfl
theorem sz157 : Try.prog.cellsOf 157 = 1 := by kernel_rfl
theorem if157 : (Try.prog.info? 157).isSome = true := by kernel_rfl
theorem st158 : isStruct Try.prog 158 = some false := by kernel_rfl
theorem sz158 : Try.prog.cellsOf 158 = 1 := by kernel_rfl
theorem if158 : (Try.prog.info? 158).isSome = true := by kernel_rfl
theorem st159 : isStruct Try.prog 159 = some false := by kernel_rfl
theorem sz159 : Try.prog.cellsOf 159 = 1 := by kernel_rfl
theorem if159 : (Try.prog.info? 159).isSome = true := by kernel_rfl
theorem st160 : isStruct Try.prog 160 = some false := by kernel_rfl
theorem sz160 : Try.prog.cellsOf 160 = 1 := by kernel_rfl
theorem if160 : (Try.prog.info? 160).isSome = true := by kernel_rfl
theorem st161 : isStruct Try.prog 161 = some false := by kernel_rfl
theorem sz161 : Try.prog.cellsOf 161 = 1 := by kernel_rfl
theorem if161 : (Try.prog.info? 161).isSome = true := by kernel_rfl
theorem st162 : isStruct Try.prog 162 = some false := by kernel_rfl
theorem sz162 : Try.prog.cellsOf 162 = 1 := by kernel_rfl
theorem if162 : (Try.prog.info? 162).isSome = true := by kernel_rfl
theorem st163 : isStruct Try.prog 163 = some false := by kernel_rfl
theorem sz163 : Try.prog.cellsOf 163 = 1 := by kernel_rfl
theorem if163 : (Try.prog.info? 163).isSome = true := by kernel_rfl
theorem st164 : isStruct Try.prog 164 = some false := by kernel_rfl
theorem sz164 : Try.prog.cellsOf 164 = 1 := by kernel_rfl
theorem if164 : (Try.prog.info? 164).isSome = true := by kernel_rfl
theorem zo164 : zeroOf Try.prog 164 = some (.slice none 0 0) := by kernel_rfl
theorem zc164 : closedV (.slice none 0 0) = true := by kernel_rfl
theorem st165 : isStruct Try.prog 165 = some true := by kernel_rfl
theorem sz165 : Try.prog.cellsOf 165 = 4 := by kernel_rfl
theorem if165 : (Try.prog.info? 165).isSome = true := by kernel_rfl
theorem zo165 : zeroOf Try.prog 165 = some (.agg #[.int .i64 0, .string ByteArray.empty, .int .i64 0, .int .i64 0]) := by kernel_rfl
theorem zc165 : closedV (.agg #[.int .i64 0, .string ByteArray.empty, .int .i64 0, .int .i64 0]) = true := by kernel_rfl
theorem st166 : isStruct Try.prog 166 = some true := by kernel_rfl
theorem sz166 : Try.prog.cellsOf 166 = 4 := by kernel_rfl
theorem if166 : (Try.prog.info? 166).isSome = true := by kernel_rfl
theorem zo166 : zeroOf Try.prog 166 = some (.agg #[.int .i64 0, .string ByteArray.empty, .int .i64 0, .int .i64 0]) := by kernel_rfl
theorem zc166 : closedV (.agg #[.int .i64 0, .string ByteArray.empty, .int .i64 0, .int .i64 0]) = true := by kernel_rfl
theorem st167 : isStruct Try.prog 167 = some false := by kernel_rfl
theorem sz167 : Try.prog.cellsOf 167 = 1 := by kernel_rfl
theorem if167 : (Try.prog.info? 167).isSome = true := by kernel_rfl
theorem st168 : isStruct Try.prog 168 = some false := by kernel_rfl
theorem sz168 : Try.prog.cellsOf 168 = 1 := by kernel_rfl
theorem if168 : (Try.prog.info? 168).isSome = true := by kernel_rfl
theorem st169 : isStruct Try.prog 169 = some false := by kernel_rfl
theorem sz169 : Try.prog.cellsOf 169 = 1 := by kernel_rfl
theorem if169 : (Try.prog.info? 169).isSome = true := by kernel_rfl
theorem st170 : isStruct Try.prog 170 = some false := by kernel_rfl
theorem sz170 : Try.prog.cellsOf 170 = 1 := by kernel_rfl
theorem if170 : (Try.prog.info? 170).isSome = true := by kernel_rfl
theorem st171 : isStruct Try.prog 171 = some false := by kernel_rfl
theorem sz171 : Try.prog.cellsOf 171 = 1 := by kernel_rfl
theorem if171 : (Try.prog.info? 171).isSome = true := by kernel_rfl
theorem st172 : isStruct Try.prog 172 = some false := by kernel_rfl
theorem sz172 : Try.prog.cellsOf 172 = 1 := by kernel_rfl
theorem if172 : (Try.prog.info? 172).isSome = true := by kernel_rfl
theorem st173 : isStruct Try.prog 173 = some false := by kernel_rfl
theorem sz173 : Try.prog.cellsOf 173 = 1 := by kernel_rfl
theorem if173 : (Try.prog.info? 173).isSome = true := by kernel_rfl
theorem st174 : isStruct Try.prog 174 = some false := by kernel_rfl
theorem sz174 : Try.prog.cellsOf 174 = 1 := by kernel_rfl
theorem if174 : (Try.prog.info? 174).isSome = true := by kernel_rfl
theorem st175 : isStruct Try.prog 175 = some false := by kernel_rfl
theorem sz175 : Try.prog.cellsOf 175 = 1 := by kernel_rfl
theorem if175 : (Try.prog.info? 175).isSome = true := by kernel_rfl
theorem st176 : isStruct Try.prog 176 = some false := by kernel_rfl
theorem sz176 : Try.prog.cellsOf 176 = 1 := by kernel_rfl
theorem if176 : (Try.prog.info? 176).isSome = true := by kernel_rfl
theorem st177 : isStruct Try.prog 177 = some false := by kernel_rfl
theorem sz177 : Try.prog.cellsOf 177 = 1 := by kernel_rfl
theorem if177 : (Try.prog.info? 177).isSome = true := by kernel_rfl
theorem st178 : isStruct Try.prog 178 = some false := by kernel_rfl
theorem sz178 : Try.prog.cellsOf 178 = 1 := by kernel_rfl
theorem if178 : (Try.prog.info? 178).isSome = true := by kernel_rfl
theorem st179 : isStruct Try.prog 179 = some false := by kernel_rfl
theorem sz179 : Try.prog.cellsOf 179 = 1 := by kernel_rfl
theorem if179 : (Try.prog.info? 179).isSome = true := by kernel_rfl
theorem st180 : isStruct Try.prog 180 = some false := by kernel_rfl
theorem sz180 : Try.prog.cellsOf 180 = 1 := by kernel_rfl
theorem if180 : (Try.prog.info? 180).isSome = true := by kernel_rfl
theorem st181 : isStruct Try.prog 181 = some false := by kernel_rfl
theorem sz181 : Try.prog.cellsOf 181 = 1 := by kernel_rfl
theorem if181 : (Try.prog.info? 181).isSome = true := by kernel_rfl
theorem st182 : isStruct Try.prog 182 = some true := by kernel_rfl
theorem sz182 : Try.prog.cellsOf 182 = 4 := by kernel_rfl
theorem if182 : (Try.prog.info? 182).isSome = true := by kernel_rfl
theorem zo182 : zeroOf Try.prog 182 = some (.agg #[.int .i64 0, .string ByteArray.empty, .int .i64 0, .int .i64 0]) := by kernel_rfl
theorem zc182 : closedV (.agg #[.int .i64 0, .string ByteArray.empty, .int .i64 0, .int .i64 0]) = true := by kernel_rfl
theorem st183 : isStruct Try.prog 183 = some false := by kernel_rfl
theorem sz183 : Try.prog.cellsOf 183 = 1 := by kernel_rfl
theorem if183 : (Try.prog.info? 183).isSome = true := by kernel_rfl
theorem st184 : isStruct Try.prog 184 = some false := by kernel_rfl
theorem sz184 : Try.prog.cellsOf 184 = 1 := by kernel_rfl
theorem if184 : (Try.prog.info? 184).isSome = true := by kernel_rfl
theorem st185 : isStruct Try.prog 185 = some false := by kernel_rfl
theorem sz185 : Try.prog.cellsOf 185 = 1 := by kernel_rfl
theorem if185 : (Try.prog.info? 185).isSome = true := by kernel_rfl
theorem st186 : isStruct Try.prog 186 = some false := by kernel_rfl
theorem sz186 : Try.prog.cellsOf 186 = 1 := by kernel_rfl
theorem if186 : (Try.prog.info? 186).isSome = true := by kernel_rfl
theorem st187 : isStruct Try.prog 187 = some false := by kernel_rfl
theorem sz187 : Try.prog.cellsOf 187 = 1 := by kernel_rfl
theorem if187 : (Try.prog.info? 187).isSome = true := by kernel_rfl
theorem st188 : isStruct Try.prog 188 = some false := by kernel_rfl
theorem sz188 : Try.prog.cellsOf 188 = 1 := by kernel_rfl
theorem if188 : (Try.prog.info? 188).isSome = true := by kernel_rfl
theorem st194 : isStruct Try.prog 194 = some false := by kernel_rfl
theorem sz194 : Try.prog.cellsOf 194 = 1 := by kernel_rfl
theorem if194 : (Try.prog.info? 194).isSome = true := by kernel_rfl
theorem st195 : isStruct Try.prog 195 = some false := by kernel_rfl
theorem sz195 : Try.prog.cellsOf 195 = 1 := by kernel_rfl
theorem if195 : (Try.prog.info? 195).isSome = true := by kernel_rfl
theorem zo195 : zeroOf Try.prog 195 = some (.int .u32 0) := by kernel_rfl
theorem zc195 : closedV (.int .u32 0) = true := by kernel_rfl
theorem st198 : isStruct Try.prog 198 = some false := by kernel_rfl
theorem sz198 : Try.prog.cellsOf 198 = 1 := by kernel_rfl
theorem if198 : (Try.prog.info? 198).isSome = true := by kernel_rfl
theorem st199 : isStruct Try.prog 199 = some false := by kernel_rfl
theorem sz199 : Try.prog.cellsOf 199 = 1 := by kernel_rfl
theorem if199 : (Try.prog.info? 199).isSome = true := by kernel_rfl
theorem st204 : isStruct Try.prog 204 = some false := by kernel_rfl
theorem sz204 : Try.prog.cellsOf 204 = 1 := by kernel_rfl
theorem if204 : (Try.prog.info? 204).isSome = true := by kernel_rfl
theorem fa7_0 (k o : Nat) : afieldAddr Try.prog 7 (.pointer (some ⟨k, o, none⟩)) 0 = some (.pointer (some ⟨k, o + 0, none⟩)) := by simp [afieldAddr, Try.underlying7, if2, sz2]
theorem fa7_1 (k o : Nat) : afieldAddr Try.prog 7 (.pointer (some ⟨k, o, none⟩)) 1 = some (.pointer (some ⟨k, o + 1, none⟩)) := by simp [afieldAddr, Try.underlying7, if3, sz3]
theorem fa7_2 (k o : Nat) : afieldAddr Try.prog 7 (.pointer (some ⟨k, o, none⟩)) 2 = some (.pointer (some ⟨k, o + 2, none⟩)) := by simp [afieldAddr, Try.underlying7, if4, sz4]
theorem fa13_0 (k o : Nat) : afieldAddr Try.prog 13 (.pointer (some ⟨k, o, none⟩)) 0 = some (.pointer (some ⟨k, o + 0, none⟩)) := by simp [afieldAddr, Try.underlying13, if9, sz9]
theorem fa13_1 (k o : Nat) : afieldAddr Try.prog 13 (.pointer (some ⟨k, o, none⟩)) 1 = some (.pointer (some ⟨k, o + 1, none⟩)) := by simp [afieldAddr, Try.underlying13, if12, sz12]
theorem fa43_0 (k o : Nat) : afieldAddr Try.prog 43 (.pointer (some ⟨k, o, none⟩)) 0 = some (.pointer (some ⟨k, o + 0, none⟩)) := by simp [afieldAddr, Try.underlying43, if3, sz3]
theorem fa43_1 (k o : Nat) : afieldAddr Try.prog 43 (.pointer (some ⟨k, o, none⟩)) 1 = some (.pointer (some ⟨k, o + 1, none⟩)) := by simp [afieldAddr, Try.underlying43, if3, sz3]
theorem fa43_2 (k o : Nat) : afieldAddr Try.prog 43 (.pointer (some ⟨k, o, none⟩)) 2 = some (.pointer (some ⟨k, o + 2, none⟩)) := by simp [afieldAddr, Try.underlying43, if3, sz3]
theorem fa43_3 (k o : Nat) : afieldAddr Try.prog 43 (.pointer (some ⟨k, o, none⟩)) 3 = some (.pointer (some ⟨k, o + 3, none⟩)) := by simp [afieldAddr, Try.underlying43, if9, sz9]
theorem fa44_0 (k o : Nat) : afieldAddr Try.prog 44 (.pointer (some ⟨k, o, none⟩)) 0 = some (.pointer (some ⟨k, o + 0, none⟩)) := by simp [afieldAddr, Try.underlying44, if3, sz3]
theorem fa44_1 (k o : Nat) : afieldAddr Try.prog 44 (.pointer (some ⟨k, o, none⟩)) 1 = some (.pointer (some ⟨k, o + 1, none⟩)) := by simp [afieldAddr, Try.underlying44, if3, sz3]
theorem fa44_2 (k o : Nat) : afieldAddr Try.prog 44 (.pointer (some ⟨k, o, none⟩)) 2 = some (.pointer (some ⟨k, o + 2, none⟩)) := by simp [afieldAddr, Try.underlying44, if3, sz3]
theorem fa44_3 (k o : Nat) : afieldAddr Try.prog 44 (.pointer (some ⟨k, o, none⟩)) 3 = some (.pointer (some ⟨k, o + 3, none⟩)) := by simp [afieldAddr, Try.underlying44, if9, sz9]
theorem fa48_0 (k o : Nat) : afieldAddr Try.prog 48 (.pointer (some ⟨k, o, none⟩)) 0 = some (.pointer (some ⟨k, o + 0, none⟩)) := by simp [afieldAddr, Try.underlying48, if3, sz3]
theorem fa48_1 (k o : Nat) : afieldAddr Try.prog 48 (.pointer (some ⟨k, o, none⟩)) 1 = some (.pointer (some ⟨k, o + 1, none⟩)) := by simp [afieldAddr, Try.underlying48, if3, sz3]
theorem fa48_2 (k o : Nat) : afieldAddr Try.prog 48 (.pointer (some ⟨k, o, none⟩)) 2 = some (.pointer (some ⟨k, o + 2, none⟩)) := by simp [afieldAddr, Try.underlying48, if3, sz3]
theorem fa48_3 (k o : Nat) : afieldAddr Try.prog 48 (.pointer (some ⟨k, o, none⟩)) 3 = some (.pointer (some ⟨k, o + 3, none⟩)) := by simp [afieldAddr, Try.underlying48, if9, sz9]
theorem fa52_0 (k o : Nat) : afieldAddr Try.prog 52 (.pointer (some ⟨k, o, none⟩)) 0 = some (.pointer (some ⟨k, o + 0, none⟩)) := by simp [afieldAddr, Try.underlying52, if3, sz3]
theorem fa52_1 (k o : Nat) : afieldAddr Try.prog 52 (.pointer (some ⟨k, o, none⟩)) 1 = some (.pointer (some ⟨k, o + 1, none⟩)) := by simp [afieldAddr, Try.underlying52, if3, sz3]
theorem fa52_2 (k o : Nat) : afieldAddr Try.prog 52 (.pointer (some ⟨k, o, none⟩)) 2 = some (.pointer (some ⟨k, o + 2, none⟩)) := by simp [afieldAddr, Try.underlying52, if9, sz9]
theorem fa53_0 (k o : Nat) : afieldAddr Try.prog 53 (.pointer (some ⟨k, o, none⟩)) 0 = some (.pointer (some ⟨k, o + 0, none⟩)) := by simp [afieldAddr, Try.underlying53, if3, sz3]
theorem fa53_1 (k o : Nat) : afieldAddr Try.prog 53 (.pointer (some ⟨k, o, none⟩)) 1 = some (.pointer (some ⟨k, o + 1, none⟩)) := by simp [afieldAddr, Try.underlying53, if3, sz3]
theorem fa53_2 (k o : Nat) : afieldAddr Try.prog 53 (.pointer (some ⟨k, o, none⟩)) 2 = some (.pointer (some ⟨k, o + 2, none⟩)) := by simp [afieldAddr, Try.underlying53, if9, sz9]
theorem fa55_0 (k o : Nat) : afieldAddr Try.prog 55 (.pointer (some ⟨k, o, none⟩)) 0 = some (.pointer (some ⟨k, o + 0, none⟩)) := by simp [afieldAddr, Try.underlying55, if53, sz53]
theorem fa55_1 (k o : Nat) : afieldAddr Try.prog 55 (.pointer (some ⟨k, o, none⟩)) 1 = some (.pointer (some ⟨k, o + 3, none⟩)) := by simp [afieldAddr, Try.underlying55, if9, sz9]
theorem fa55_2 (k o : Nat) : afieldAddr Try.prog 55 (.pointer (some ⟨k, o, none⟩)) 2 = some (.pointer (some ⟨k, o + 4, none⟩)) := by simp [afieldAddr, Try.underlying55, if54, sz54]
theorem fa55_3 (k o : Nat) : afieldAddr Try.prog 55 (.pointer (some ⟨k, o, none⟩)) 3 = some (.pointer (some ⟨k, o + 5, none⟩)) := by simp [afieldAddr, Try.underlying55, if3, sz3]
theorem fa56_0 (k o : Nat) : afieldAddr Try.prog 56 (.pointer (some ⟨k, o, none⟩)) 0 = some (.pointer (some ⟨k, o + 0, none⟩)) := by simp [afieldAddr, Try.underlying56, if53, sz53]
theorem fa56_1 (k o : Nat) : afieldAddr Try.prog 56 (.pointer (some ⟨k, o, none⟩)) 1 = some (.pointer (some ⟨k, o + 3, none⟩)) := by simp [afieldAddr, Try.underlying56, if9, sz9]
theorem fa56_2 (k o : Nat) : afieldAddr Try.prog 56 (.pointer (some ⟨k, o, none⟩)) 2 = some (.pointer (some ⟨k, o + 4, none⟩)) := by simp [afieldAddr, Try.underlying56, if54, sz54]
theorem fa56_3 (k o : Nat) : afieldAddr Try.prog 56 (.pointer (some ⟨k, o, none⟩)) 3 = some (.pointer (some ⟨k, o + 5, none⟩)) := by simp [afieldAddr, Try.underlying56, if3, sz3]
theorem fa59_0 (k o : Nat) : afieldAddr Try.prog 59 (.pointer (some ⟨k, o, none⟩)) 0 = some (.pointer (some ⟨k, o + 0, none⟩)) := by simp [afieldAddr, Try.underlying59, if3, sz3]
theorem fa59_1 (k o : Nat) : afieldAddr Try.prog 59 (.pointer (some ⟨k, o, none⟩)) 1 = some (.pointer (some ⟨k, o + 1, none⟩)) := by simp [afieldAddr, Try.underlying59, if3, sz3]
theorem fa59_2 (k o : Nat) : afieldAddr Try.prog 59 (.pointer (some ⟨k, o, none⟩)) 2 = some (.pointer (some ⟨k, o + 2, none⟩)) := by simp [afieldAddr, Try.underlying59, if9, sz9]
theorem fa61_0 (k o : Nat) : afieldAddr Try.prog 61 (.pointer (some ⟨k, o, none⟩)) 0 = some (.pointer (some ⟨k, o + 0, none⟩)) := by simp [afieldAddr, Try.underlying61, if59, sz59]
theorem fa61_1 (k o : Nat) : afieldAddr Try.prog 61 (.pointer (some ⟨k, o, none⟩)) 1 = some (.pointer (some ⟨k, o + 3, none⟩)) := by simp [afieldAddr, Try.underlying61, if9, sz9]
theorem fa61_2 (k o : Nat) : afieldAddr Try.prog 61 (.pointer (some ⟨k, o, none⟩)) 2 = some (.pointer (some ⟨k, o + 4, none⟩)) := by simp [afieldAddr, Try.underlying61, if60, sz60]
theorem fa61_3 (k o : Nat) : afieldAddr Try.prog 61 (.pointer (some ⟨k, o, none⟩)) 3 = some (.pointer (some ⟨k, o + 5, none⟩)) := by simp [afieldAddr, Try.underlying61, if3, sz3]
theorem fa62_0 (k o : Nat) : afieldAddr Try.prog 62 (.pointer (some ⟨k, o, none⟩)) 0 = some (.pointer (some ⟨k, o + 0, none⟩)) := by simp [afieldAddr, Try.underlying62, if59, sz59]
theorem fa62_1 (k o : Nat) : afieldAddr Try.prog 62 (.pointer (some ⟨k, o, none⟩)) 1 = some (.pointer (some ⟨k, o + 3, none⟩)) := by simp [afieldAddr, Try.underlying62, if9, sz9]
theorem fa62_2 (k o : Nat) : afieldAddr Try.prog 62 (.pointer (some ⟨k, o, none⟩)) 2 = some (.pointer (some ⟨k, o + 4, none⟩)) := by simp [afieldAddr, Try.underlying62, if60, sz60]
theorem fa62_3 (k o : Nat) : afieldAddr Try.prog 62 (.pointer (some ⟨k, o, none⟩)) 3 = some (.pointer (some ⟨k, o + 5, none⟩)) := by simp [afieldAddr, Try.underlying62, if3, sz3]
theorem fa73_0 (k o : Nat) : afieldAddr Try.prog 73 (.pointer (some ⟨k, o, none⟩)) 0 = some (.pointer (some ⟨k, o + 0, none⟩)) := by simp [afieldAddr, Try.underlying73, if53, sz53]
theorem fa73_1 (k o : Nat) : afieldAddr Try.prog 73 (.pointer (some ⟨k, o, none⟩)) 1 = some (.pointer (some ⟨k, o + 3, none⟩)) := by simp [afieldAddr, Try.underlying73, if54, sz54]
theorem fa73_2 (k o : Nat) : afieldAddr Try.prog 73 (.pointer (some ⟨k, o, none⟩)) 2 = some (.pointer (some ⟨k, o + 4, none⟩)) := by simp [afieldAddr, Try.underlying73, if72, sz72]
theorem fa73_3 (k o : Nat) : afieldAddr Try.prog 73 (.pointer (some ⟨k, o, none⟩)) 3 = some (.pointer (some ⟨k, o + 5, none⟩)) := by simp [afieldAddr, Try.underlying73, if3, sz3]
theorem fa74_0 (k o : Nat) : afieldAddr Try.prog 74 (.pointer (some ⟨k, o, none⟩)) 0 = some (.pointer (some ⟨k, o + 0, none⟩)) := by simp [afieldAddr, Try.underlying74, if53, sz53]
theorem fa74_1 (k o : Nat) : afieldAddr Try.prog 74 (.pointer (some ⟨k, o, none⟩)) 1 = some (.pointer (some ⟨k, o + 3, none⟩)) := by simp [afieldAddr, Try.underlying74, if54, sz54]
theorem fa74_2 (k o : Nat) : afieldAddr Try.prog 74 (.pointer (some ⟨k, o, none⟩)) 2 = some (.pointer (some ⟨k, o + 4, none⟩)) := by simp [afieldAddr, Try.underlying74, if72, sz72]
theorem fa74_3 (k o : Nat) : afieldAddr Try.prog 74 (.pointer (some ⟨k, o, none⟩)) 3 = some (.pointer (some ⟨k, o + 5, none⟩)) := by simp [afieldAddr, Try.underlying74, if3, sz3]
theorem fa75_0 (k o : Nat) : afieldAddr Try.prog 75 (.pointer (some ⟨k, o, none⟩)) 0 = some (.pointer (some ⟨k, o + 0, none⟩)) := by simp [afieldAddr, Try.underlying75, if3, sz3]
theorem fa75_1 (k o : Nat) : afieldAddr Try.prog 75 (.pointer (some ⟨k, o, none⟩)) 1 = some (.pointer (some ⟨k, o + 1, none⟩)) := by simp [afieldAddr, Try.underlying75, if74, sz74]
theorem fa75_2 (k o : Nat) : afieldAddr Try.prog 75 (.pointer (some ⟨k, o, none⟩)) 2 = some (.pointer (some ⟨k, o + 7, none⟩)) := by simp [afieldAddr, Try.underlying75, if9, sz9]
theorem fa75_3 (k o : Nat) : afieldAddr Try.prog 75 (.pointer (some ⟨k, o, none⟩)) 3 = some (.pointer (some ⟨k, o + 8, none⟩)) := by simp [afieldAddr, Try.underlying75, if3, sz3]
theorem fa75_4 (k o : Nat) : afieldAddr Try.prog 75 (.pointer (some ⟨k, o, none⟩)) 4 = some (.pointer (some ⟨k, o + 9, none⟩)) := by simp [afieldAddr, Try.underlying75, if3, sz3]
theorem fa76_0 (k o : Nat) : afieldAddr Try.prog 76 (.pointer (some ⟨k, o, none⟩)) 0 = some (.pointer (some ⟨k, o + 0, none⟩)) := by simp [afieldAddr, Try.underlying76, if3, sz3]
theorem fa76_1 (k o : Nat) : afieldAddr Try.prog 76 (.pointer (some ⟨k, o, none⟩)) 1 = some (.pointer (some ⟨k, o + 1, none⟩)) := by simp [afieldAddr, Try.underlying76, if74, sz74]
theorem fa76_2 (k o : Nat) : afieldAddr Try.prog 76 (.pointer (some ⟨k, o, none⟩)) 2 = some (.pointer (some ⟨k, o + 7, none⟩)) := by simp [afieldAddr, Try.underlying76, if9, sz9]
theorem fa76_3 (k o : Nat) : afieldAddr Try.prog 76 (.pointer (some ⟨k, o, none⟩)) 3 = some (.pointer (some ⟨k, o + 8, none⟩)) := by simp [afieldAddr, Try.underlying76, if3, sz3]
theorem fa76_4 (k o : Nat) : afieldAddr Try.prog 76 (.pointer (some ⟨k, o, none⟩)) 4 = some (.pointer (some ⟨k, o + 9, none⟩)) := by simp [afieldAddr, Try.underlying76, if3, sz3]
theorem fa79_0 (k o : Nat) : afieldAddr Try.prog 79 (.pointer (some ⟨k, o, none⟩)) 0 = some (.pointer (some ⟨k, o + 0, none⟩)) := by simp [afieldAddr, Try.underlying79, if59, sz59]
theorem fa79_1 (k o : Nat) : afieldAddr Try.prog 79 (.pointer (some ⟨k, o, none⟩)) 1 = some (.pointer (some ⟨k, o + 3, none⟩)) := by simp [afieldAddr, Try.underlying79, if60, sz60]
theorem fa79_2 (k o : Nat) : afieldAddr Try.prog 79 (.pointer (some ⟨k, o, none⟩)) 2 = some (.pointer (some ⟨k, o + 4, none⟩)) := by simp [afieldAddr, Try.underlying79, if72, sz72]
theorem fa79_3 (k o : Nat) : afieldAddr Try.prog 79 (.pointer (some ⟨k, o, none⟩)) 3 = some (.pointer (some ⟨k, o + 5, none⟩)) := by simp [afieldAddr, Try.underlying79, if3, sz3]
theorem fa80_0 (k o : Nat) : afieldAddr Try.prog 80 (.pointer (some ⟨k, o, none⟩)) 0 = some (.pointer (some ⟨k, o + 0, none⟩)) := by simp [afieldAddr, Try.underlying80, if59, sz59]
theorem fa80_1 (k o : Nat) : afieldAddr Try.prog 80 (.pointer (some ⟨k, o, none⟩)) 1 = some (.pointer (some ⟨k, o + 3, none⟩)) := by simp [afieldAddr, Try.underlying80, if60, sz60]
theorem fa80_2 (k o : Nat) : afieldAddr Try.prog 80 (.pointer (some ⟨k, o, none⟩)) 2 = some (.pointer (some ⟨k, o + 4, none⟩)) := by simp [afieldAddr, Try.underlying80, if72, sz72]
theorem fa80_3 (k o : Nat) : afieldAddr Try.prog 80 (.pointer (some ⟨k, o, none⟩)) 3 = some (.pointer (some ⟨k, o + 5, none⟩)) := by simp [afieldAddr, Try.underlying80, if3, sz3]
theorem fa81_0 (k o : Nat) : afieldAddr Try.prog 81 (.pointer (some ⟨k, o, none⟩)) 0 = some (.pointer (some ⟨k, o + 0, none⟩)) := by simp [afieldAddr, Try.underlying81, if3, sz3]
theorem fa81_1 (k o : Nat) : afieldAddr Try.prog 81 (.pointer (some ⟨k, o, none⟩)) 1 = some (.pointer (some ⟨k, o + 1, none⟩)) := by simp [afieldAddr, Try.underlying81, if80, sz80]
theorem fa81_2 (k o : Nat) : afieldAddr Try.prog 81 (.pointer (some ⟨k, o, none⟩)) 2 = some (.pointer (some ⟨k, o + 7, none⟩)) := by simp [afieldAddr, Try.underlying81, if9, sz9]
theorem fa81_3 (k o : Nat) : afieldAddr Try.prog 81 (.pointer (some ⟨k, o, none⟩)) 3 = some (.pointer (some ⟨k, o + 8, none⟩)) := by simp [afieldAddr, Try.underlying81, if3, sz3]
theorem fa81_4 (k o : Nat) : afieldAddr Try.prog 81 (.pointer (some ⟨k, o, none⟩)) 4 = some (.pointer (some ⟨k, o + 9, none⟩)) := by simp [afieldAddr, Try.underlying81, if3, sz3]
theorem fa82_0 (k o : Nat) : afieldAddr Try.prog 82 (.pointer (some ⟨k, o, none⟩)) 0 = some (.pointer (some ⟨k, o + 0, none⟩)) := by simp [afieldAddr, Try.underlying82, if3, sz3]
theorem fa82_1 (k o : Nat) : afieldAddr Try.prog 82 (.pointer (some ⟨k, o, none⟩)) 1 = some (.pointer (some ⟨k, o + 1, none⟩)) := by simp [afieldAddr, Try.underlying82, if80, sz80]
theorem fa82_2 (k o : Nat) : afieldAddr Try.prog 82 (.pointer (some ⟨k, o, none⟩)) 2 = some (.pointer (some ⟨k, o + 7, none⟩)) := by simp [afieldAddr, Try.underlying82, if9, sz9]
theorem fa82_3 (k o : Nat) : afieldAddr Try.prog 82 (.pointer (some ⟨k, o, none⟩)) 3 = some (.pointer (some ⟨k, o + 8, none⟩)) := by simp [afieldAddr, Try.underlying82, if3, sz3]
theorem fa82_4 (k o : Nat) : afieldAddr Try.prog 82 (.pointer (some ⟨k, o, none⟩)) 4 = some (.pointer (some ⟨k, o + 9, none⟩)) := by simp [afieldAddr, Try.underlying82, if3, sz3]
theorem fa88_0 (k o : Nat) : afieldAddr Try.prog 88 (.pointer (some ⟨k, o, none⟩)) 0 = some (.pointer (some ⟨k, o + 0, none⟩)) := by simp [afieldAddr, Try.underlying88, if3, sz3]
theorem fa88_1 (k o : Nat) : afieldAddr Try.prog 88 (.pointer (some ⟨k, o, none⟩)) 1 = some (.pointer (some ⟨k, o + 1, none⟩)) := by simp [afieldAddr, Try.underlying88, if9, sz9]
theorem fa88_2 (k o : Nat) : afieldAddr Try.prog 88 (.pointer (some ⟨k, o, none⟩)) 2 = some (.pointer (some ⟨k, o + 2, none⟩)) := by simp [afieldAddr, Try.underlying88, if3, sz3]
theorem fa88_3 (k o : Nat) : afieldAddr Try.prog 88 (.pointer (some ⟨k, o, none⟩)) 3 = some (.pointer (some ⟨k, o + 3, none⟩)) := by simp [afieldAddr, Try.underlying88, if3, sz3]
theorem fa89_0 (k o : Nat) : afieldAddr Try.prog 89 (.pointer (some ⟨k, o, none⟩)) 0 = some (.pointer (some ⟨k, o + 0, none⟩)) := by simp [afieldAddr, Try.underlying89, if3, sz3]
theorem fa89_1 (k o : Nat) : afieldAddr Try.prog 89 (.pointer (some ⟨k, o, none⟩)) 1 = some (.pointer (some ⟨k, o + 1, none⟩)) := by simp [afieldAddr, Try.underlying89, if9, sz9]
theorem fa89_2 (k o : Nat) : afieldAddr Try.prog 89 (.pointer (some ⟨k, o, none⟩)) 2 = some (.pointer (some ⟨k, o + 2, none⟩)) := by simp [afieldAddr, Try.underlying89, if3, sz3]
theorem fa89_3 (k o : Nat) : afieldAddr Try.prog 89 (.pointer (some ⟨k, o, none⟩)) 3 = some (.pointer (some ⟨k, o + 3, none⟩)) := by simp [afieldAddr, Try.underlying89, if3, sz3]
theorem fa95_0 (k o : Nat) : afieldAddr Try.prog 95 (.pointer (some ⟨k, o, none⟩)) 0 = some (.pointer (some ⟨k, o + 0, none⟩)) := by simp [afieldAddr, Try.underlying95, if3, sz3]
theorem fa95_1 (k o : Nat) : afieldAddr Try.prog 95 (.pointer (some ⟨k, o, none⟩)) 1 = some (.pointer (some ⟨k, o + 1, none⟩)) := by simp [afieldAddr, Try.underlying95, if9, sz9]
theorem fa95_2 (k o : Nat) : afieldAddr Try.prog 95 (.pointer (some ⟨k, o, none⟩)) 2 = some (.pointer (some ⟨k, o + 2, none⟩)) := by simp [afieldAddr, Try.underlying95, if3, sz3]
theorem fa95_3 (k o : Nat) : afieldAddr Try.prog 95 (.pointer (some ⟨k, o, none⟩)) 3 = some (.pointer (some ⟨k, o + 3, none⟩)) := by simp [afieldAddr, Try.underlying95, if3, sz3]
theorem fa106_0 (k o : Nat) : afieldAddr Try.prog 106 (.pointer (some ⟨k, o, none⟩)) 0 = some (.pointer (some ⟨k, o + 0, none⟩)) := by simp [afieldAddr, Try.underlying106, if3, sz3]
theorem fa106_1 (k o : Nat) : afieldAddr Try.prog 106 (.pointer (some ⟨k, o, none⟩)) 1 = some (.pointer (some ⟨k, o + 1, none⟩)) := by simp [afieldAddr, Try.underlying106, if105, sz105]
theorem fa107_0 (k o : Nat) : afieldAddr Try.prog 107 (.pointer (some ⟨k, o, none⟩)) 0 = some (.pointer (some ⟨k, o + 0, none⟩)) := by simp [afieldAddr, Try.underlying107, if3, sz3]
theorem fa107_1 (k o : Nat) : afieldAddr Try.prog 107 (.pointer (some ⟨k, o, none⟩)) 1 = some (.pointer (some ⟨k, o + 1, none⟩)) := by simp [afieldAddr, Try.underlying107, if105, sz105]
theorem fa108_0 (k o : Nat) : afieldAddr Try.prog 108 (.pointer (some ⟨k, o, none⟩)) 0 = some (.pointer (some ⟨k, o + 0, none⟩)) := by simp [afieldAddr, Try.underlying108, if3, sz3]
theorem fa108_1 (k o : Nat) : afieldAddr Try.prog 108 (.pointer (some ⟨k, o, none⟩)) 1 = some (.pointer (some ⟨k, o + 1, none⟩)) := by simp [afieldAddr, Try.underlying108, if3, sz3]
theorem fa108_2 (k o : Nat) : afieldAddr Try.prog 108 (.pointer (some ⟨k, o, none⟩)) 2 = some (.pointer (some ⟨k, o + 2, none⟩)) := by simp [afieldAddr, Try.underlying108, if107, sz107]
theorem fa108_3 (k o : Nat) : afieldAddr Try.prog 108 (.pointer (some ⟨k, o, none⟩)) 3 = some (.pointer (some ⟨k, o + 4, none⟩)) := by simp [afieldAddr, Try.underlying108, if3, sz3]
theorem fa109_0 (k o : Nat) : afieldAddr Try.prog 109 (.pointer (some ⟨k, o, none⟩)) 0 = some (.pointer (some ⟨k, o + 0, none⟩)) := by simp [afieldAddr, Try.underlying109, if3, sz3]
theorem fa109_1 (k o : Nat) : afieldAddr Try.prog 109 (.pointer (some ⟨k, o, none⟩)) 1 = some (.pointer (some ⟨k, o + 1, none⟩)) := by simp [afieldAddr, Try.underlying109, if3, sz3]
theorem fa109_2 (k o : Nat) : afieldAddr Try.prog 109 (.pointer (some ⟨k, o, none⟩)) 2 = some (.pointer (some ⟨k, o + 2, none⟩)) := by simp [afieldAddr, Try.underlying109, if107, sz107]
theorem fa109_3 (k o : Nat) : afieldAddr Try.prog 109 (.pointer (some ⟨k, o, none⟩)) 3 = some (.pointer (some ⟨k, o + 4, none⟩)) := by simp [afieldAddr, Try.underlying109, if3, sz3]
theorem fa114_0 (k o : Nat) : afieldAddr Try.prog 114 (.pointer (some ⟨k, o, none⟩)) 0 = some (.pointer (some ⟨k, o + 0, none⟩)) := by simp [afieldAddr, Try.underlying114, if3, sz3]
theorem fa114_1 (k o : Nat) : afieldAddr Try.prog 114 (.pointer (some ⟨k, o, none⟩)) 1 = some (.pointer (some ⟨k, o + 1, none⟩)) := by simp [afieldAddr, Try.underlying114, if113, sz113]
theorem fa115_0 (k o : Nat) : afieldAddr Try.prog 115 (.pointer (some ⟨k, o, none⟩)) 0 = some (.pointer (some ⟨k, o + 0, none⟩)) := by simp [afieldAddr, Try.underlying115, if3, sz3]
theorem fa115_1 (k o : Nat) : afieldAddr Try.prog 115 (.pointer (some ⟨k, o, none⟩)) 1 = some (.pointer (some ⟨k, o + 1, none⟩)) := by simp [afieldAddr, Try.underlying115, if113, sz113]
theorem fa116_0 (k o : Nat) : afieldAddr Try.prog 116 (.pointer (some ⟨k, o, none⟩)) 0 = some (.pointer (some ⟨k, o + 0, none⟩)) := by simp [afieldAddr, Try.underlying116, if3, sz3]
theorem fa116_1 (k o : Nat) : afieldAddr Try.prog 116 (.pointer (some ⟨k, o, none⟩)) 1 = some (.pointer (some ⟨k, o + 1, none⟩)) := by simp [afieldAddr, Try.underlying116, if3, sz3]
theorem fa116_2 (k o : Nat) : afieldAddr Try.prog 116 (.pointer (some ⟨k, o, none⟩)) 2 = some (.pointer (some ⟨k, o + 2, none⟩)) := by simp [afieldAddr, Try.underlying116, if115, sz115]
theorem fa116_3 (k o : Nat) : afieldAddr Try.prog 116 (.pointer (some ⟨k, o, none⟩)) 3 = some (.pointer (some ⟨k, o + 4, none⟩)) := by simp [afieldAddr, Try.underlying116, if3, sz3]
theorem fa117_0 (k o : Nat) : afieldAddr Try.prog 117 (.pointer (some ⟨k, o, none⟩)) 0 = some (.pointer (some ⟨k, o + 0, none⟩)) := by simp [afieldAddr, Try.underlying117, if3, sz3]
theorem fa117_1 (k o : Nat) : afieldAddr Try.prog 117 (.pointer (some ⟨k, o, none⟩)) 1 = some (.pointer (some ⟨k, o + 1, none⟩)) := by simp [afieldAddr, Try.underlying117, if3, sz3]
theorem fa117_2 (k o : Nat) : afieldAddr Try.prog 117 (.pointer (some ⟨k, o, none⟩)) 2 = some (.pointer (some ⟨k, o + 2, none⟩)) := by simp [afieldAddr, Try.underlying117, if115, sz115]
theorem fa117_3 (k o : Nat) : afieldAddr Try.prog 117 (.pointer (some ⟨k, o, none⟩)) 3 = some (.pointer (some ⟨k, o + 4, none⟩)) := by simp [afieldAddr, Try.underlying117, if3, sz3]
theorem fa124_0 (k o : Nat) : afieldAddr Try.prog 124 (.pointer (some ⟨k, o, none⟩)) 0 = some (.pointer (some ⟨k, o + 0, none⟩)) := by simp [afieldAddr, Try.underlying124, if9, sz9]
theorem fa124_1 (k o : Nat) : afieldAddr Try.prog 124 (.pointer (some ⟨k, o, none⟩)) 1 = some (.pointer (some ⟨k, o + 1, none⟩)) := by simp [afieldAddr, Try.underlying124, if3, sz3]
theorem fa125_0 (k o : Nat) : afieldAddr Try.prog 125 (.pointer (some ⟨k, o, none⟩)) 0 = some (.pointer (some ⟨k, o + 0, none⟩)) := by simp [afieldAddr, Try.underlying125, if9, sz9]
theorem fa125_1 (k o : Nat) : afieldAddr Try.prog 125 (.pointer (some ⟨k, o, none⟩)) 1 = some (.pointer (some ⟨k, o + 1, none⟩)) := by simp [afieldAddr, Try.underlying125, if3, sz3]
theorem fa127_0 (k o : Nat) : afieldAddr Try.prog 127 (.pointer (some ⟨k, o, none⟩)) 0 = some (.pointer (some ⟨k, o + 0, none⟩)) := by simp [afieldAddr, Try.underlying127, if9, sz9]
theorem fa127_1 (k o : Nat) : afieldAddr Try.prog 127 (.pointer (some ⟨k, o, none⟩)) 1 = some (.pointer (some ⟨k, o + 1, none⟩)) := by simp [afieldAddr, Try.underlying127, if3, sz3]
theorem fa165_0 (k o : Nat) : afieldAddr Try.prog 165 (.pointer (some ⟨k, o, none⟩)) 0 = some (.pointer (some ⟨k, o + 0, none⟩)) := by simp [afieldAddr, Try.underlying165, if3, sz3]
theorem fa165_1 (k o : Nat) : afieldAddr Try.prog 165 (.pointer (some ⟨k, o, none⟩)) 1 = some (.pointer (some ⟨k, o + 1, none⟩)) := by simp [afieldAddr, Try.underlying165, if9, sz9]
theorem fa165_2 (k o : Nat) : afieldAddr Try.prog 165 (.pointer (some ⟨k, o, none⟩)) 2 = some (.pointer (some ⟨k, o + 2, none⟩)) := by simp [afieldAddr, Try.underlying165, if3, sz3]
theorem fa165_3 (k o : Nat) : afieldAddr Try.prog 165 (.pointer (some ⟨k, o, none⟩)) 3 = some (.pointer (some ⟨k, o + 3, none⟩)) := by simp [afieldAddr, Try.underlying165, if3, sz3]
theorem fa166_0 (k o : Nat) : afieldAddr Try.prog 166 (.pointer (some ⟨k, o, none⟩)) 0 = some (.pointer (some ⟨k, o + 0, none⟩)) := by simp [afieldAddr, Try.underlying166, if3, sz3]
theorem fa166_1 (k o : Nat) : afieldAddr Try.prog 166 (.pointer (some ⟨k, o, none⟩)) 1 = some (.pointer (some ⟨k, o + 1, none⟩)) := by simp [afieldAddr, Try.underlying166, if9, sz9]
theorem fa166_2 (k o : Nat) : afieldAddr Try.prog 166 (.pointer (some ⟨k, o, none⟩)) 2 = some (.pointer (some ⟨k, o + 2, none⟩)) := by simp [afieldAddr, Try.underlying166, if3, sz3]
theorem fa166_3 (k o : Nat) : afieldAddr Try.prog 166 (.pointer (some ⟨k, o, none⟩)) 3 = some (.pointer (some ⟨k, o + 3, none⟩)) := by simp [afieldAddr, Try.underlying166, if3, sz3]
theorem fa182_0 (k o : Nat) : afieldAddr Try.prog 182 (.pointer (some ⟨k, o, none⟩)) 0 = some (.pointer (some ⟨k, o + 0, none⟩)) := by simp [afieldAddr, Try.underlying182, if3, sz3]
theorem fa182_1 (k o : Nat) : afieldAddr Try.prog 182 (.pointer (some ⟨k, o, none⟩)) 1 = some (.pointer (some ⟨k, o + 1, none⟩)) := by simp [afieldAddr, Try.underlying182, if9, sz9]
theorem fa182_2 (k o : Nat) : afieldAddr Try.prog 182 (.pointer (some ⟨k, o, none⟩)) 2 = some (.pointer (some ⟨k, o + 2, none⟩)) := by simp [afieldAddr, Try.underlying182, if3, sz3]
theorem fa182_3 (k o : Nat) : afieldAddr Try.prog 182 (.pointer (some ⟨k, o, none⟩)) 3 = some (.pointer (some ⟨k, o + 3, none⟩)) := by simp [afieldAddr, Try.underlying182, if3, sz3]
theorem eq44 (a b : D.Report) : ∃ q, eqv Try.prog 20 44 (.agg #[Value.int .i64 a.Tester, Value.int .i64 a.Slot, Value.int .i64 a.Kind, Value.string a.Word]) (.agg #[Value.int .i64 b.Tester, Value.int .i64 b.Slot, Value.int .i64 b.Kind, Value.string b.Word]) = some q ∧ (q = true ↔ a = b) := by
  refine ⟨_, eqv_struct 19 Try.underlying44 rfl (by kernel_rfl) (eqf_cons rfl (apart_one st3 rfl) (apart_one st3 rfl) (eqv_int 18 Try.underlying3) (eqf_cons rfl (apart_one st3 rfl) (apart_one st3 rfl) (eqv_int 18 Try.underlying3) (eqf_cons rfl (apart_one st3 rfl) (apart_one st3 rfl) (eqv_int 18 Try.underlying3) (eqf_cons rfl (apart_one st9 rfl) (apart_one st9 rfl) (eqv_str 18 Try.underlying9) eqf_nil)))), ?_⟩
  obtain ⟨a0, a1, a2, a3⟩ := a
  obtain ⟨b0, b1, b2, b3⟩ := b
  simp
theorem beq44 (a b : D.Report) (xo yo : Operand) : ∃ q, abop Try.prog .eql 44 xo yo (.agg #[Value.int .i64 a.Tester, Value.int .i64 a.Slot, Value.int .i64 a.Kind, Value.string a.Word]) (.agg #[Value.int .i64 b.Tester, Value.int .i64 b.Slot, Value.int .i64 b.Kind, Value.string b.Word]) = some (.bool q) ∧ (q = true ↔ a = b) := by
  obtain ⟨q, h1, h2⟩ := eq44 a b
  exact ⟨q, abop_eql (by simp [closedV, closed1]) (by simp [closedV, closed1]) (by kernel_rfl) h1, h2⟩
theorem bne44 (a b : D.Report) (xo yo : Operand) : ∃ q, abop Try.prog .neq 44 xo yo (.agg #[Value.int .i64 a.Tester, Value.int .i64 a.Slot, Value.int .i64 a.Kind, Value.string a.Word]) (.agg #[Value.int .i64 b.Tester, Value.int .i64 b.Slot, Value.int .i64 b.Kind, Value.string b.Word]) = some (.bool (!q)) ∧ (q = true ↔ a = b) := by
  obtain ⟨q, h1, h2⟩ := eq44 a b
  exact ⟨q, abop_neq (by simp [closedV, closed1]) (by simp [closedV, closed1]) (by kernel_rfl) h1, h2⟩
theorem eq48 (a b : D.Report) : ∃ q, eqv Try.prog 20 48 (.agg #[Value.int .i64 a.Tester, Value.int .i64 a.Slot, Value.int .i64 a.Kind, Value.string a.Word]) (.agg #[Value.int .i64 b.Tester, Value.int .i64 b.Slot, Value.int .i64 b.Kind, Value.string b.Word]) = some q ∧ (q = true ↔ a = b) := by
  refine ⟨_, eqv_struct 19 Try.underlying48 rfl (by kernel_rfl) (eqf_cons rfl (apart_one st3 rfl) (apart_one st3 rfl) (eqv_int 18 Try.underlying3) (eqf_cons rfl (apart_one st3 rfl) (apart_one st3 rfl) (eqv_int 18 Try.underlying3) (eqf_cons rfl (apart_one st3 rfl) (apart_one st3 rfl) (eqv_int 18 Try.underlying3) (eqf_cons rfl (apart_one st9 rfl) (apart_one st9 rfl) (eqv_str 18 Try.underlying9) eqf_nil)))), ?_⟩
  obtain ⟨a0, a1, a2, a3⟩ := a
  obtain ⟨b0, b1, b2, b3⟩ := b
  simp
theorem beq48 (a b : D.Report) (xo yo : Operand) : ∃ q, abop Try.prog .eql 48 xo yo (.agg #[Value.int .i64 a.Tester, Value.int .i64 a.Slot, Value.int .i64 a.Kind, Value.string a.Word]) (.agg #[Value.int .i64 b.Tester, Value.int .i64 b.Slot, Value.int .i64 b.Kind, Value.string b.Word]) = some (.bool q) ∧ (q = true ↔ a = b) := by
  obtain ⟨q, h1, h2⟩ := eq48 a b
  exact ⟨q, abop_eql (by simp [closedV, closed1]) (by simp [closedV, closed1]) (by kernel_rfl) h1, h2⟩
theorem bne48 (a b : D.Report) (xo yo : Operand) : ∃ q, abop Try.prog .neq 48 xo yo (.agg #[Value.int .i64 a.Tester, Value.int .i64 a.Slot, Value.int .i64 a.Kind, Value.string a.Word]) (.agg #[Value.int .i64 b.Tester, Value.int .i64 b.Slot, Value.int .i64 b.Kind, Value.string b.Word]) = some (.bool (!q)) ∧ (q = true ↔ a = b) := by
  obtain ⟨q, h1, h2⟩ := eq48 a b
  exact ⟨q, abop_neq (by simp [closedV, closed1]) (by simp [closedV, closed1]) (by kernel_rfl) h1, h2⟩
theorem eq53 (a b : D.Grid) : ∃ q, eqv Try.prog 20 53 (.agg #[Value.int .i64 a.Rows, Value.int .i64 a.Cols, Value.string a.Cells]) (.agg #[Value.int .i64 b.Rows, Value.int .i64 b.Cols, Value.string b.Cells]) = some q ∧ (q = true ↔ a = b) := by
  refine ⟨_, eqv_struct 19 Try.underlying53 rfl (by kernel_rfl) (eqf_cons rfl (apart_one st3 rfl) (apart_one st3 rfl) (eqv_int 18 Try.underlying3) (eqf_cons rfl (apart_one st3 rfl) (apart_one st3 rfl) (eqv_int 18 Try.underlying3) (eqf_cons rfl (apart_one st9 rfl) (apart_one st9 rfl) (eqv_str 18 Try.underlying9) eqf_nil))), ?_⟩
  obtain ⟨a0, a1, a2⟩ := a
  obtain ⟨b0, b1, b2⟩ := b
  simp
theorem beq53 (a b : D.Grid) (xo yo : Operand) : ∃ q, abop Try.prog .eql 53 xo yo (.agg #[Value.int .i64 a.Rows, Value.int .i64 a.Cols, Value.string a.Cells]) (.agg #[Value.int .i64 b.Rows, Value.int .i64 b.Cols, Value.string b.Cells]) = some (.bool q) ∧ (q = true ↔ a = b) := by
  obtain ⟨q, h1, h2⟩ := eq53 a b
  exact ⟨q, abop_eql (by simp [closedV, closed1]) (by simp [closedV, closed1]) (by kernel_rfl) h1, h2⟩
theorem bne53 (a b : D.Grid) (xo yo : Operand) : ∃ q, abop Try.prog .neq 53 xo yo (.agg #[Value.int .i64 a.Rows, Value.int .i64 a.Cols, Value.string a.Cells]) (.agg #[Value.int .i64 b.Rows, Value.int .i64 b.Cols, Value.string b.Cells]) = some (.bool (!q)) ∧ (q = true ↔ a = b) := by
  obtain ⟨q, h1, h2⟩ := eq53 a b
  exact ⟨q, abop_neq (by simp [closedV, closed1]) (by simp [closedV, closed1]) (by kernel_rfl) h1, h2⟩
theorem eq59 (a b : D.Grid) : ∃ q, eqv Try.prog 20 59 (.agg #[Value.int .i64 a.Rows, Value.int .i64 a.Cols, Value.string a.Cells]) (.agg #[Value.int .i64 b.Rows, Value.int .i64 b.Cols, Value.string b.Cells]) = some q ∧ (q = true ↔ a = b) := by
  refine ⟨_, eqv_struct 19 Try.underlying59 rfl (by kernel_rfl) (eqf_cons rfl (apart_one st3 rfl) (apart_one st3 rfl) (eqv_int 18 Try.underlying3) (eqf_cons rfl (apart_one st3 rfl) (apart_one st3 rfl) (eqv_int 18 Try.underlying3) (eqf_cons rfl (apart_one st9 rfl) (apart_one st9 rfl) (eqv_str 18 Try.underlying9) eqf_nil))), ?_⟩
  obtain ⟨a0, a1, a2⟩ := a
  obtain ⟨b0, b1, b2⟩ := b
  simp
theorem beq59 (a b : D.Grid) (xo yo : Operand) : ∃ q, abop Try.prog .eql 59 xo yo (.agg #[Value.int .i64 a.Rows, Value.int .i64 a.Cols, Value.string a.Cells]) (.agg #[Value.int .i64 b.Rows, Value.int .i64 b.Cols, Value.string b.Cells]) = some (.bool q) ∧ (q = true ↔ a = b) := by
  obtain ⟨q, h1, h2⟩ := eq59 a b
  exact ⟨q, abop_eql (by simp [closedV, closed1]) (by simp [closedV, closed1]) (by kernel_rfl) h1, h2⟩
theorem bne59 (a b : D.Grid) (xo yo : Operand) : ∃ q, abop Try.prog .neq 59 xo yo (.agg #[Value.int .i64 a.Rows, Value.int .i64 a.Cols, Value.string a.Cells]) (.agg #[Value.int .i64 b.Rows, Value.int .i64 b.Cols, Value.string b.Cells]) = some (.bool (!q)) ∧ (q = true ↔ a = b) := by
  obtain ⟨q, h1, h2⟩ := eq59 a b
  exact ⟨q, abop_neq (by simp [closedV, closed1]) (by simp [closedV, closed1]) (by kernel_rfl) h1, h2⟩
theorem eq89 (a b : D.Note) : ∃ q, eqv Try.prog 20 89 (.agg #[Value.int .i64 a.Cell, Value.string a.Letter, Value.int .i64 a.Tick, Value.int .i64 a.Who]) (.agg #[Value.int .i64 b.Cell, Value.string b.Letter, Value.int .i64 b.Tick, Value.int .i64 b.Who]) = some q ∧ (q = true ↔ a = b) := by
  refine ⟨_, eqv_struct 19 Try.underlying89 rfl (by kernel_rfl) (eqf_cons rfl (apart_one st3 rfl) (apart_one st3 rfl) (eqv_int 18 Try.underlying3) (eqf_cons rfl (apart_one st9 rfl) (apart_one st9 rfl) (eqv_str 18 Try.underlying9) (eqf_cons rfl (apart_one st3 rfl) (apart_one st3 rfl) (eqv_int 18 Try.underlying3) (eqf_cons rfl (apart_one st3 rfl) (apart_one st3 rfl) (eqv_int 18 Try.underlying3) eqf_nil)))), ?_⟩
  obtain ⟨a0, a1, a2, a3⟩ := a
  obtain ⟨b0, b1, b2, b3⟩ := b
  simp
theorem beq89 (a b : D.Note) (xo yo : Operand) : ∃ q, abop Try.prog .eql 89 xo yo (.agg #[Value.int .i64 a.Cell, Value.string a.Letter, Value.int .i64 a.Tick, Value.int .i64 a.Who]) (.agg #[Value.int .i64 b.Cell, Value.string b.Letter, Value.int .i64 b.Tick, Value.int .i64 b.Who]) = some (.bool q) ∧ (q = true ↔ a = b) := by
  obtain ⟨q, h1, h2⟩ := eq89 a b
  exact ⟨q, abop_eql (by simp [closedV, closed1]) (by simp [closedV, closed1]) (by kernel_rfl) h1, h2⟩
theorem bne89 (a b : D.Note) (xo yo : Operand) : ∃ q, abop Try.prog .neq 89 xo yo (.agg #[Value.int .i64 a.Cell, Value.string a.Letter, Value.int .i64 a.Tick, Value.int .i64 a.Who]) (.agg #[Value.int .i64 b.Cell, Value.string b.Letter, Value.int .i64 b.Tick, Value.int .i64 b.Who]) = some (.bool (!q)) ∧ (q = true ↔ a = b) := by
  obtain ⟨q, h1, h2⟩ := eq89 a b
  exact ⟨q, abop_neq (by simp [closedV, closed1]) (by simp [closedV, closed1]) (by kernel_rfl) h1, h2⟩
theorem eq95 (a b : D.Note) : ∃ q, eqv Try.prog 20 95 (.agg #[Value.int .i64 a.Cell, Value.string a.Letter, Value.int .i64 a.Tick, Value.int .i64 a.Who]) (.agg #[Value.int .i64 b.Cell, Value.string b.Letter, Value.int .i64 b.Tick, Value.int .i64 b.Who]) = some q ∧ (q = true ↔ a = b) := by
  refine ⟨_, eqv_struct 19 Try.underlying95 rfl (by kernel_rfl) (eqf_cons rfl (apart_one st3 rfl) (apart_one st3 rfl) (eqv_int 18 Try.underlying3) (eqf_cons rfl (apart_one st9 rfl) (apart_one st9 rfl) (eqv_str 18 Try.underlying9) (eqf_cons rfl (apart_one st3 rfl) (apart_one st3 rfl) (eqv_int 18 Try.underlying3) (eqf_cons rfl (apart_one st3 rfl) (apart_one st3 rfl) (eqv_int 18 Try.underlying3) eqf_nil)))), ?_⟩
  obtain ⟨a0, a1, a2, a3⟩ := a
  obtain ⟨b0, b1, b2, b3⟩ := b
  simp
theorem beq95 (a b : D.Note) (xo yo : Operand) : ∃ q, abop Try.prog .eql 95 xo yo (.agg #[Value.int .i64 a.Cell, Value.string a.Letter, Value.int .i64 a.Tick, Value.int .i64 a.Who]) (.agg #[Value.int .i64 b.Cell, Value.string b.Letter, Value.int .i64 b.Tick, Value.int .i64 b.Who]) = some (.bool q) ∧ (q = true ↔ a = b) := by
  obtain ⟨q, h1, h2⟩ := eq95 a b
  exact ⟨q, abop_eql (by simp [closedV, closed1]) (by simp [closedV, closed1]) (by kernel_rfl) h1, h2⟩
theorem bne95 (a b : D.Note) (xo yo : Operand) : ∃ q, abop Try.prog .neq 95 xo yo (.agg #[Value.int .i64 a.Cell, Value.string a.Letter, Value.int .i64 a.Tick, Value.int .i64 a.Who]) (.agg #[Value.int .i64 b.Cell, Value.string b.Letter, Value.int .i64 b.Tick, Value.int .i64 b.Who]) = some (.bool (!q)) ∧ (q = true ↔ a = b) := by
  obtain ⟨q, h1, h2⟩ := eq95 a b
  exact ⟨q, abop_neq (by simp [closedV, closed1]) (by simp [closedV, closed1]) (by kernel_rfl) h1, h2⟩
theorem eq125 (a b : D.Used) : ∃ q, eqv Try.prog 20 125 (.agg #[Value.string a.Word, Value.int .i64 a.Issue]) (.agg #[Value.string b.Word, Value.int .i64 b.Issue]) = some q ∧ (q = true ↔ a = b) := by
  refine ⟨_, eqv_struct 19 Try.underlying125 rfl (by kernel_rfl) (eqf_cons rfl (apart_one st9 rfl) (apart_one st9 rfl) (eqv_str 18 Try.underlying9) (eqf_cons rfl (apart_one st3 rfl) (apart_one st3 rfl) (eqv_int 18 Try.underlying3) eqf_nil)), ?_⟩
  obtain ⟨a0, a1⟩ := a
  obtain ⟨b0, b1⟩ := b
  simp
theorem beq125 (a b : D.Used) (xo yo : Operand) : ∃ q, abop Try.prog .eql 125 xo yo (.agg #[Value.string a.Word, Value.int .i64 a.Issue]) (.agg #[Value.string b.Word, Value.int .i64 b.Issue]) = some (.bool q) ∧ (q = true ↔ a = b) := by
  obtain ⟨q, h1, h2⟩ := eq125 a b
  exact ⟨q, abop_eql (by simp [closedV, closed1]) (by simp [closedV, closed1]) (by kernel_rfl) h1, h2⟩
theorem bne125 (a b : D.Used) (xo yo : Operand) : ∃ q, abop Try.prog .neq 125 xo yo (.agg #[Value.string a.Word, Value.int .i64 a.Issue]) (.agg #[Value.string b.Word, Value.int .i64 b.Issue]) = some (.bool (!q)) ∧ (q = true ↔ a = b) := by
  obtain ⟨q, h1, h2⟩ := eq125 a b
  exact ⟨q, abop_neq (by simp [closedV, closed1]) (by simp [closedV, closed1]) (by kernel_rfl) h1, h2⟩
theorem eq127 (a b : D.Used) : ∃ q, eqv Try.prog 20 127 (.agg #[Value.string a.Word, Value.int .i64 a.Issue]) (.agg #[Value.string b.Word, Value.int .i64 b.Issue]) = some q ∧ (q = true ↔ a = b) := by
  refine ⟨_, eqv_struct 19 Try.underlying127 rfl (by kernel_rfl) (eqf_cons rfl (apart_one st9 rfl) (apart_one st9 rfl) (eqv_str 18 Try.underlying9) (eqf_cons rfl (apart_one st3 rfl) (apart_one st3 rfl) (eqv_int 18 Try.underlying3) eqf_nil)), ?_⟩
  obtain ⟨a0, a1⟩ := a
  obtain ⟨b0, b1⟩ := b
  simp
theorem beq127 (a b : D.Used) (xo yo : Operand) : ∃ q, abop Try.prog .eql 127 xo yo (.agg #[Value.string a.Word, Value.int .i64 a.Issue]) (.agg #[Value.string b.Word, Value.int .i64 b.Issue]) = some (.bool q) ∧ (q = true ↔ a = b) := by
  obtain ⟨q, h1, h2⟩ := eq127 a b
  exact ⟨q, abop_eql (by simp [closedV, closed1]) (by simp [closedV, closed1]) (by kernel_rfl) h1, h2⟩
theorem bne127 (a b : D.Used) (xo yo : Operand) : ∃ q, abop Try.prog .neq 127 xo yo (.agg #[Value.string a.Word, Value.int .i64 a.Issue]) (.agg #[Value.string b.Word, Value.int .i64 b.Issue]) = some (.bool (!q)) ∧ (q = true ↔ a = b) := by
  obtain ⟨q, h1, h2⟩ := eq127 a b
  exact ⟨q, abop_neq (by simp [closedV, closed1]) (by simp [closedV, closed1]) (by kernel_rfl) h1, h2⟩
theorem eq166 (a b : D.Step) : ∃ q, eqv Try.prog 20 166 (.agg #[Value.int .i64 a.Kind, Value.string a.Word, Value.int .i64 a.A, Value.int .i64 a.B]) (.agg #[Value.int .i64 b.Kind, Value.string b.Word, Value.int .i64 b.A, Value.int .i64 b.B]) = some q ∧ (q = true ↔ a = b) := by
  refine ⟨_, eqv_struct 19 Try.underlying166 rfl (by kernel_rfl) (eqf_cons rfl (apart_one st3 rfl) (apart_one st3 rfl) (eqv_int 18 Try.underlying3) (eqf_cons rfl (apart_one st9 rfl) (apart_one st9 rfl) (eqv_str 18 Try.underlying9) (eqf_cons rfl (apart_one st3 rfl) (apart_one st3 rfl) (eqv_int 18 Try.underlying3) (eqf_cons rfl (apart_one st3 rfl) (apart_one st3 rfl) (eqv_int 18 Try.underlying3) eqf_nil)))), ?_⟩
  obtain ⟨a0, a1, a2, a3⟩ := a
  obtain ⟨b0, b1, b2, b3⟩ := b
  simp
theorem beq166 (a b : D.Step) (xo yo : Operand) : ∃ q, abop Try.prog .eql 166 xo yo (.agg #[Value.int .i64 a.Kind, Value.string a.Word, Value.int .i64 a.A, Value.int .i64 a.B]) (.agg #[Value.int .i64 b.Kind, Value.string b.Word, Value.int .i64 b.A, Value.int .i64 b.B]) = some (.bool q) ∧ (q = true ↔ a = b) := by
  obtain ⟨q, h1, h2⟩ := eq166 a b
  exact ⟨q, abop_eql (by simp [closedV, closed1]) (by simp [closedV, closed1]) (by kernel_rfl) h1, h2⟩
theorem bne166 (a b : D.Step) (xo yo : Operand) : ∃ q, abop Try.prog .neq 166 xo yo (.agg #[Value.int .i64 a.Kind, Value.string a.Word, Value.int .i64 a.A, Value.int .i64 a.B]) (.agg #[Value.int .i64 b.Kind, Value.string b.Word, Value.int .i64 b.A, Value.int .i64 b.B]) = some (.bool (!q)) ∧ (q = true ↔ a = b) := by
  obtain ⟨q, h1, h2⟩ := eq166 a b
  exact ⟨q, abop_neq (by simp [closedV, closed1]) (by simp [closedV, closed1]) (by kernel_rfl) h1, h2⟩
theorem eq182 (a b : D.Step) : ∃ q, eqv Try.prog 20 182 (.agg #[Value.int .i64 a.Kind, Value.string a.Word, Value.int .i64 a.A, Value.int .i64 a.B]) (.agg #[Value.int .i64 b.Kind, Value.string b.Word, Value.int .i64 b.A, Value.int .i64 b.B]) = some q ∧ (q = true ↔ a = b) := by
  refine ⟨_, eqv_struct 19 Try.underlying182 rfl (by kernel_rfl) (eqf_cons rfl (apart_one st3 rfl) (apart_one st3 rfl) (eqv_int 18 Try.underlying3) (eqf_cons rfl (apart_one st9 rfl) (apart_one st9 rfl) (eqv_str 18 Try.underlying9) (eqf_cons rfl (apart_one st3 rfl) (apart_one st3 rfl) (eqv_int 18 Try.underlying3) (eqf_cons rfl (apart_one st3 rfl) (apart_one st3 rfl) (eqv_int 18 Try.underlying3) eqf_nil)))), ?_⟩
  obtain ⟨a0, a1, a2, a3⟩ := a
  obtain ⟨b0, b1, b2, b3⟩ := b
  simp
theorem beq182 (a b : D.Step) (xo yo : Operand) : ∃ q, abop Try.prog .eql 182 xo yo (.agg #[Value.int .i64 a.Kind, Value.string a.Word, Value.int .i64 a.A, Value.int .i64 a.B]) (.agg #[Value.int .i64 b.Kind, Value.string b.Word, Value.int .i64 b.A, Value.int .i64 b.B]) = some (.bool q) ∧ (q = true ↔ a = b) := by
  obtain ⟨q, h1, h2⟩ := eq182 a b
  exact ⟨q, abop_eql (by simp [closedV, closed1]) (by simp [closedV, closed1]) (by kernel_rfl) h1, h2⟩
theorem bne182 (a b : D.Step) (xo yo : Operand) : ∃ q, abop Try.prog .neq 182 xo yo (.agg #[Value.int .i64 a.Kind, Value.string a.Word, Value.int .i64 a.A, Value.int .i64 a.B]) (.agg #[Value.int .i64 b.Kind, Value.string b.Word, Value.int .i64 b.A, Value.int .i64 b.B]) = some (.bool (!q)) ∧ (q = true ↔ a = b) := by
  obtain ⟨q, h1, h2⟩ := eq182 a b
  exact ⟨q, abop_neq (by simp [closedV, closed1]) (by simp [closedV, closed1]) (by kernel_rfl) h1, h2⟩
theorem follows : Try.prog.follows .mixedOrders = true := by kernel_rfl
theorem plainProg : Plain Try.prog := by
  unfold Plain
  kernel_rfl
end Go.Proofs.Ythdnjihmjdbdkaa.AE
