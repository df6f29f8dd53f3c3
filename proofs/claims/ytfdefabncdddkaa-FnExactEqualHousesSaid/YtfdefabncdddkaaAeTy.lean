/- The plain types of the program: structures, kinds, rows of cells, and the types' facts. Conditions: none. -/
import Derived.Test.YtfdefabncdddkaaAeEq
import Derived.Test.YtfdefabncdddkaaProg
import Derived.KernelRfl
namespace Go.Proofs.Ytfdefabncdddkaa.AE
open Go Go.RowKit
set_option linter.unusedVariables false
set_option linter.unusedSimpArgs false

structure D.Grid where
  Rows : Int
  Cols : Int
  Cells : ByteArray
def kGrid : AK D.Grid := AK.iso (AK.pair (AK.int .i64) (AK.pair (AK.int .i64) AK.string)) (fun x => (x.Rows, x.Cols, x.Cells))
def GGrid (x : D.Grid) : Prop := ((Lit.int .i64 x.Rows).wf = true) ∧ ((Lit.int .i64 x.Cols).wf = true) ∧ (x.Cells.size ≤ maxLen)
theorem RGrid {h : AH} {a : D.Grid} {cs : List Value} (hr : kGrid.R h a cs) : cs = [Value.int .i64 a.Rows, Value.int .i64 a.Cols, Value.string a.Cells] := by
  obtain ⟨_, _, rfl, rfl, ⟨_, _, rfl, rfl, rfl⟩⟩ := hr
  exact rfl
theorem RGrid.mk {h : AH} {a : D.Grid} : kGrid.R h a [Value.int .i64 a.Rows, Value.int .i64 a.Cols, Value.string a.Cells] := ⟨_, _, rfl, rfl, ⟨_, _, rfl, rfl, rfl⟩⟩
structure D.Step where
  Kind : Int
  Word : ByteArray
  A : Int
  B : Int
def kStep : AK D.Step := AK.iso (AK.pair (AK.int .i64) (AK.pair AK.string (AK.pair (AK.int .i64) (AK.int .i64)))) (fun x => (x.Kind, x.Word, x.A, x.B))
def GStep (x : D.Step) : Prop := ((Lit.int .i64 x.Kind).wf = true) ∧ (x.Word.size ≤ maxLen) ∧ ((Lit.int .i64 x.A).wf = true) ∧ ((Lit.int .i64 x.B).wf = true)
theorem RStep {h : AH} {a : D.Step} {cs : List Value} (hr : kStep.R h a cs) : cs = [Value.int .i64 a.Kind, Value.string a.Word, Value.int .i64 a.A, Value.int .i64 a.B] := by
  obtain ⟨_, _, rfl, rfl, ⟨_, _, rfl, rfl, ⟨_, _, rfl, rfl, rfl⟩⟩⟩ := hr
  exact rfl
theorem RStep.mk {h : AH} {a : D.Step} : kStep.R h a [Value.int .i64 a.Kind, Value.string a.Word, Value.int .i64 a.A, Value.int .i64 a.B] := ⟨_, _, rfl, rfl, ⟨_, _, rfl, rfl, ⟨_, _, rfl, rfl, rfl⟩⟩⟩
structure D.Clue where
  Sense : Int
  Play : _root_.List D.Step
def kClue : AK D.Clue := AK.iso (AK.pair (AK.int .i64) (AK.slice kStep)) (fun x => (x.Sense, x.Play))
def GClue (x : D.Clue) : Prop := ((Lit.int .i64 x.Sense).wf = true) ∧ ((x.Play.length ≤ maxLen ∧ ∀ y ∈ x.Play, GStep y))
theorem RClue {h : AH} {a : D.Clue} {cs : List Value} (hr : kClue.R h a cs) : ∃ v_Play, cs = [Value.int .i64 a.Sense, v_Play] ∧ SlR kStep h a.Play v_Play := by
  obtain ⟨_, _, rfl, rfl, ⟨_, rfl, h0⟩⟩ := hr
  exact ⟨_, rfl, h0⟩
theorem RClue.mk {h : AH} {a : D.Clue} {v_Play : Value} (h0 : SlR kStep h a.Play v_Play) : kClue.R h a [Value.int .i64 a.Sense, v_Play] := ⟨_, _, rfl, rfl, ⟨_, rfl, h0⟩⟩
structure D.Draft where
  Grid : D.Grid
  Fill : ByteArray
  Clues : _root_.List D.Clue
  Version : Int
def kDraft : AK D.Draft := AK.iso (AK.pair kGrid (AK.pair AK.string (AK.pair (AK.slice kClue) (AK.int .i64)))) (fun x => (x.Grid, x.Fill, x.Clues, x.Version))
def GDraft (x : D.Draft) : Prop := (GGrid x.Grid) ∧ (x.Fill.size ≤ maxLen) ∧ ((x.Clues.length ≤ maxLen ∧ ∀ y ∈ x.Clues, GClue y)) ∧ ((Lit.int .i64 x.Version).wf = true)
theorem RDraft {h : AH} {a : D.Draft} {cs : List Value} (hr : kDraft.R h a cs) : ∃ v_Clues, cs = [Value.int .i64 a.Grid.Rows, Value.int .i64 a.Grid.Cols, Value.string a.Grid.Cells, Value.string a.Fill, v_Clues, Value.int .i64 a.Version] ∧ SlR kClue h a.Clues v_Clues := by
  obtain ⟨_, _, rfl, ⟨_, _, rfl, rfl, ⟨_, _, rfl, rfl, rfl⟩⟩, ⟨_, _, rfl, rfl, ⟨_, _, rfl, ⟨_, rfl, h0⟩, rfl⟩⟩⟩ := hr
  exact ⟨_, rfl, h0⟩
theorem RDraft.mk {h : AH} {a : D.Draft} {v_Clues : Value} (h0 : SlR kClue h a.Clues v_Clues) : kDraft.R h a [Value.int .i64 a.Grid.Rows, Value.int .i64 a.Grid.Cols, Value.string a.Grid.Cells, Value.string a.Fill, v_Clues, Value.int .i64 a.Version] := ⟨_, _, rfl, ⟨_, _, rfl, rfl, ⟨_, _, rfl, rfl, rfl⟩⟩, ⟨_, _, rfl, rfl, ⟨_, _, rfl, ⟨_, rfl, h0⟩, rfl⟩⟩⟩
structure D.Listed where
  Word : ByteArray
  From : Int
  Until : Int
  Score : Int
def kListed : AK D.Listed := AK.iso (AK.pair AK.string (AK.pair (AK.int .i64) (AK.pair (AK.int .i64) (AK.int .i64)))) (fun x => (x.Word, x.From, x.Until, x.Score))
def GListed (x : D.Listed) : Prop := (x.Word.size ≤ maxLen) ∧ ((Lit.int .i64 x.From).wf = true) ∧ ((Lit.int .i64 x.Until).wf = true) ∧ ((Lit.int .i64 x.Score).wf = true)
theorem RListed {h : AH} {a : D.Listed} {cs : List Value} (hr : kListed.R h a cs) : cs = [Value.string a.Word, Value.int .i64 a.From, Value.int .i64 a.Until, Value.int .i64 a.Score] := by
  obtain ⟨_, _, rfl, rfl, ⟨_, _, rfl, rfl, ⟨_, _, rfl, rfl, rfl⟩⟩⟩ := hr
  exact rfl
theorem RListed.mk {h : AH} {a : D.Listed} : kListed.R h a [Value.string a.Word, Value.int .i64 a.From, Value.int .i64 a.Until, Value.int .i64 a.Score] := ⟨_, _, rfl, rfl, ⟨_, _, rfl, rfl, ⟨_, _, rfl, rfl, rfl⟩⟩⟩
structure D.Meaning where
  Word : ByteArray
  Sense : Int
def kMeaning : AK D.Meaning := AK.iso (AK.pair AK.string (AK.int .i64)) (fun x => (x.Word, x.Sense))
def GMeaning (x : D.Meaning) : Prop := (x.Word.size ≤ maxLen) ∧ ((Lit.int .i64 x.Sense).wf = true)
theorem RMeaning {h : AH} {a : D.Meaning} {cs : List Value} (hr : kMeaning.R h a cs) : cs = [Value.string a.Word, Value.int .i64 a.Sense] := by
  obtain ⟨_, _, rfl, rfl, rfl⟩ := hr
  exact rfl
theorem RMeaning.mk {h : AH} {a : D.Meaning} : kMeaning.R h a [Value.string a.Word, Value.int .i64 a.Sense] := ⟨_, _, rfl, rfl, rfl⟩
structure D.Puzzle where
  Grid : D.Grid
  Clues : _root_.List D.Clue
  Seals : _root_.List Int
  Salt : Int
def kPuzzle : AK D.Puzzle := AK.iso (AK.pair kGrid (AK.pair (AK.slice kClue) (AK.pair (AK.slice (AK.int .i64)) (AK.int .i64)))) (fun x => (x.Grid, x.Clues, x.Seals, x.Salt))
def GPuzzle (x : D.Puzzle) : Prop := (GGrid x.Grid) ∧ ((x.Clues.length ≤ maxLen ∧ ∀ y ∈ x.Clues, GClue y)) ∧ ((x.Seals.length ≤ maxLen ∧ ∀ y ∈ x.Seals, (Lit.int .i64 y).wf = true)) ∧ ((Lit.int .i64 x.Salt).wf = true)
theorem RPuzzle {h : AH} {a : D.Puzzle} {cs : List Value} (hr : kPuzzle.R h a cs) : ∃ v_Clues v_Seals, cs = [Value.int .i64 a.Grid.Rows, Value.int .i64 a.Grid.Cols, Value.string a.Grid.Cells, v_Clues, v_Seals, Value.int .i64 a.Salt] ∧ SlR kClue h a.Clues v_Clues ∧ SlR (AK.int .i64) h a.Seals v_Seals := by
  obtain ⟨_, _, rfl, ⟨_, _, rfl, rfl, ⟨_, _, rfl, rfl, rfl⟩⟩, ⟨_, _, rfl, ⟨_, rfl, h0⟩, ⟨_, _, rfl, ⟨_, rfl, h1⟩, rfl⟩⟩⟩ := hr
  exact ⟨_, _, rfl, h0, h1⟩
theorem RPuzzle.mk {h : AH} {a : D.Puzzle} {v_Clues : Value} {v_Seals : Value} (h0 : SlR kClue h a.Clues v_Clues) (h1 : SlR (AK.int .i64) h a.Seals v_Seals) : kPuzzle.R h a [Value.int .i64 a.Grid.Rows, Value.int .i64 a.Grid.Cols, Value.string a.Grid.Cells, v_Clues, v_Seals, Value.int .i64 a.Salt] := ⟨_, _, rfl, ⟨_, _, rfl, rfl, ⟨_, _, rfl, rfl, rfl⟩⟩, ⟨_, _, rfl, ⟨_, rfl, h0⟩, ⟨_, _, rfl, ⟨_, rfl, h1⟩, rfl⟩⟩⟩
structure D.Issue where
  Number : Int
  Puzzle : D.Puzzle
  Fill : ByteArray
  Open : Int
  Close : Int
def kIssue : AK D.Issue := AK.iso (AK.pair (AK.int .i64) (AK.pair kPuzzle (AK.pair AK.string (AK.pair (AK.int .i64) (AK.int .i64))))) (fun x => (x.Number, x.Puzzle, x.Fill, x.Open, x.Close))
def GIssue (x : D.Issue) : Prop := ((Lit.int .i64 x.Number).wf = true) ∧ (GPuzzle x.Puzzle) ∧ (x.Fill.size ≤ maxLen) ∧ ((Lit.int .i64 x.Open).wf = true) ∧ ((Lit.int .i64 x.Close).wf = true)
theorem RIssue {h : AH} {a : D.Issue} {cs : List Value} (hr : kIssue.R h a cs) : ∃ v_Puzzle_Clues v_Puzzle_Seals, cs = [Value.int .i64 a.Number, Value.int .i64 a.Puzzle.Grid.Rows, Value.int .i64 a.Puzzle.Grid.Cols, Value.string a.Puzzle.Grid.Cells, v_Puzzle_Clues, v_Puzzle_Seals, Value.int .i64 a.Puzzle.Salt, Value.string a.Fill, Value.int .i64 a.Open, Value.int .i64 a.Close] ∧ SlR kClue h a.Puzzle.Clues v_Puzzle_Clues ∧ SlR (AK.int .i64) h a.Puzzle.Seals v_Puzzle_Seals := by
  obtain ⟨_, _, rfl, rfl, ⟨_, _, rfl, ⟨_, _, rfl, ⟨_, _, rfl, rfl, ⟨_, _, rfl, rfl, rfl⟩⟩, ⟨_, _, rfl, ⟨_, rfl, h0⟩, ⟨_, _, rfl, ⟨_, rfl, h1⟩, rfl⟩⟩⟩, ⟨_, _, rfl, rfl, ⟨_, _, rfl, rfl, rfl⟩⟩⟩⟩ := hr
  exact ⟨_, _, rfl, h0, h1⟩
theorem RIssue.mk {h : AH} {a : D.Issue} {v_Puzzle_Clues : Value} {v_Puzzle_Seals : Value} (h0 : SlR kClue h a.Puzzle.Clues v_Puzzle_Clues) (h1 : SlR (AK.int .i64) h a.Puzzle.Seals v_Puzzle_Seals) : kIssue.R h a [Value.int .i64 a.Number, Value.int .i64 a.Puzzle.Grid.Rows, Value.int .i64 a.Puzzle.Grid.Cols, Value.string a.Puzzle.Grid.Cells, v_Puzzle_Clues, v_Puzzle_Seals, Value.int .i64 a.Puzzle.Salt, Value.string a.Fill, Value.int .i64 a.Open, Value.int .i64 a.Close] := ⟨_, _, rfl, rfl, ⟨_, _, rfl, ⟨_, _, rfl, ⟨_, _, rfl, rfl, ⟨_, _, rfl, rfl, rfl⟩⟩, ⟨_, _, rfl, ⟨_, rfl, h0⟩, ⟨_, _, rfl, ⟨_, rfl, h1⟩, rfl⟩⟩⟩, ⟨_, _, rfl, rfl, ⟨_, _, rfl, rfl, rfl⟩⟩⟩⟩
structure D.Used where
  Word : ByteArray
  Issue : Int
def kUsed : AK D.Used := AK.iso (AK.pair AK.string (AK.int .i64)) (fun x => (x.Word, x.Issue))
def GUsed (x : D.Used) : Prop := (x.Word.size ≤ maxLen) ∧ ((Lit.int .i64 x.Issue).wf = true)
theorem RUsed {h : AH} {a : D.Used} {cs : List Value} (hr : kUsed.R h a cs) : cs = [Value.string a.Word, Value.int .i64 a.Issue] := by
  obtain ⟨_, _, rfl, rfl, rfl⟩ := hr
  exact rfl
theorem RUsed.mk {h : AH} {a : D.Used} : kUsed.R h a [Value.string a.Word, Value.int .i64 a.Issue] := ⟨_, _, rfl, rfl, rfl⟩
structure D.Correction where
  Issue : Int
  Slot : Int
  Clue : D.Clue
  Tick : Int
def kCorrection : AK D.Correction := AK.iso (AK.pair (AK.int .i64) (AK.pair (AK.int .i64) (AK.pair kClue (AK.int .i64)))) (fun x => (x.Issue, x.Slot, x.Clue, x.Tick))
def GCorrection (x : D.Correction) : Prop := ((Lit.int .i64 x.Issue).wf = true) ∧ ((Lit.int .i64 x.Slot).wf = true) ∧ (GClue x.Clue) ∧ ((Lit.int .i64 x.Tick).wf = true)
theorem RCorrection {h : AH} {a : D.Correction} {cs : List Value} (hr : kCorrection.R h a cs) : ∃ v_Clue_Play, cs = [Value.int .i64 a.Issue, Value.int .i64 a.Slot, Value.int .i64 a.Clue.Sense, v_Clue_Play, Value.int .i64 a.Tick] ∧ SlR kStep h a.Clue.Play v_Clue_Play := by
  obtain ⟨_, _, rfl, rfl, ⟨_, _, rfl, rfl, ⟨_, _, rfl, ⟨_, _, rfl, rfl, ⟨_, rfl, h0⟩⟩, rfl⟩⟩⟩ := hr
  exact ⟨_, rfl, h0⟩
theorem RCorrection.mk {h : AH} {a : D.Correction} {v_Clue_Play : Value} (h0 : SlR kStep h a.Clue.Play v_Clue_Play) : kCorrection.R h a [Value.int .i64 a.Issue, Value.int .i64 a.Slot, Value.int .i64 a.Clue.Sense, v_Clue_Play, Value.int .i64 a.Tick] := ⟨_, _, rfl, rfl, ⟨_, _, rfl, rfl, ⟨_, _, rfl, ⟨_, _, rfl, rfl, ⟨_, rfl, h0⟩⟩, rfl⟩⟩⟩
structure D.Entry where
  Player : Int
  Issue : Int
  Tick : Int
  Fill : ByteArray
def kEntry : AK D.Entry := AK.iso (AK.pair (AK.int .i64) (AK.pair (AK.int .i64) (AK.pair (AK.int .i64) AK.string))) (fun x => (x.Player, x.Issue, x.Tick, x.Fill))
def GEntry (x : D.Entry) : Prop := ((Lit.int .i64 x.Player).wf = true) ∧ ((Lit.int .i64 x.Issue).wf = true) ∧ ((Lit.int .i64 x.Tick).wf = true) ∧ (x.Fill.size ≤ maxLen)
theorem REntry {h : AH} {a : D.Entry} {cs : List Value} (hr : kEntry.R h a cs) : cs = [Value.int .i64 a.Player, Value.int .i64 a.Issue, Value.int .i64 a.Tick, Value.string a.Fill] := by
  obtain ⟨_, _, rfl, rfl, ⟨_, _, rfl, rfl, ⟨_, _, rfl, rfl, rfl⟩⟩⟩ := hr
  exact rfl
theorem REntry.mk {h : AH} {a : D.Entry} : kEntry.R h a [Value.int .i64 a.Player, Value.int .i64 a.Issue, Value.int .i64 a.Tick, Value.string a.Fill] := ⟨_, _, rfl, rfl, ⟨_, _, rfl, rfl, ⟨_, _, rfl, rfl, rfl⟩⟩⟩
structure D.House where
  List : _root_.List D.Listed
  Dict : _root_.List D.Meaning
  Desk : D.Draft
  Issues : _root_.List D.Issue
  Uses : _root_.List D.Used
  Corrections : _root_.List D.Correction
  Entries : _root_.List D.Entry
  Now : Int
def kHouse : AK D.House := AK.iso (AK.pair (AK.slice kListed) (AK.pair (AK.slice kMeaning) (AK.pair kDraft (AK.pair (AK.slice kIssue) (AK.pair (AK.slice kUsed) (AK.pair (AK.slice kCorrection) (AK.pair (AK.slice kEntry) (AK.int .i64)))))))) (fun x => (x.List, x.Dict, x.Desk, x.Issues, x.Uses, x.Corrections, x.Entries, x.Now))
def GHouse (x : D.House) : Prop := ((x.List.length ≤ maxLen ∧ ∀ y ∈ x.List, GListed y)) ∧ ((x.Dict.length ≤ maxLen ∧ ∀ y ∈ x.Dict, GMeaning y)) ∧ (GDraft x.Desk) ∧ ((x.Issues.length ≤ maxLen ∧ ∀ y ∈ x.Issues, GIssue y)) ∧ ((x.Uses.length ≤ maxLen ∧ ∀ y ∈ x.Uses, GUsed y)) ∧ ((x.Corrections.length ≤ maxLen ∧ ∀ y ∈ x.Corrections, GCorrection y)) ∧ ((x.Entries.length ≤ maxLen ∧ ∀ y ∈ x.Entries, GEntry y)) ∧ ((Lit.int .i64 x.Now).wf = true)
theorem RHouse {h : AH} {a : D.House} {cs : List Value} (hr : kHouse.R h a cs) : ∃ v_List v_Dict v_Desk_Clues v_Issues v_Uses v_Corrections v_Entries, cs = [v_List, v_Dict, Value.int .i64 a.Desk.Grid.Rows, Value.int .i64 a.Desk.Grid.Cols, Value.string a.Desk.Grid.Cells, Value.string a.Desk.Fill, v_Desk_Clues, Value.int .i64 a.Desk.Version, v_Issues, v_Uses, v_Corrections, v_Entries, Value.int .i64 a.Now] ∧ SlR kListed h a.List v_List ∧ SlR kMeaning h a.Dict v_Dict ∧ SlR kClue h a.Desk.Clues v_Desk_Clues ∧ SlR kIssue h a.Issues v_Issues ∧ SlR kUsed h a.Uses v_Uses ∧ SlR kCorrection h a.Corrections v_Corrections ∧ SlR kEntry h a.Entries v_Entries := by
  obtain ⟨_, _, rfl, ⟨_, rfl, h0⟩, ⟨_, _, rfl, ⟨_, rfl, h1⟩, ⟨_, _, rfl, ⟨_, _, rfl, ⟨_, _, rfl, rfl, ⟨_, _, rfl, rfl, rfl⟩⟩, ⟨_, _, rfl, rfl, ⟨_, _, rfl, ⟨_, rfl, h2⟩, rfl⟩⟩⟩, ⟨_, _, rfl, ⟨_, rfl, h3⟩, ⟨_, _, rfl, ⟨_, rfl, h4⟩, ⟨_, _, rfl, ⟨_, rfl, h5⟩, ⟨_, _, rfl, ⟨_, rfl, h6⟩, rfl⟩⟩⟩⟩⟩⟩⟩ := hr
  exact ⟨_, _, _, _, _, _, _, rfl, h0, h1, h2, h3, h4, h5, h6⟩
theorem RHouse.mk {h : AH} {a : D.House} {v_List : Value} {v_Dict : Value} {v_Desk_Clues : Value} {v_Issues : Value} {v_Uses : Value} {v_Corrections : Value} {v_Entries : Value} (h0 : SlR kListed h a.List v_List) (h1 : SlR kMeaning h a.Dict v_Dict) (h2 : SlR kClue h a.Desk.Clues v_Desk_Clues) (h3 : SlR kIssue h a.Issues v_Issues) (h4 : SlR kUsed h a.Uses v_Uses) (h5 : SlR kCorrection h a.Corrections v_Corrections) (h6 : SlR kEntry h a.Entries v_Entries) : kHouse.R h a [v_List, v_Dict, Value.int .i64 a.Desk.Grid.Rows, Value.int .i64 a.Desk.Grid.Cols, Value.string a.Desk.Grid.Cells, Value.string a.Desk.Fill, v_Desk_Clues, Value.int .i64 a.Desk.Version, v_Issues, v_Uses, v_Corrections, v_Entries, Value.int .i64 a.Now] := ⟨_, _, rfl, ⟨_, rfl, h0⟩, ⟨_, _, rfl, ⟨_, rfl, h1⟩, ⟨_, _, rfl, ⟨_, _, rfl, ⟨_, _, rfl, rfl, ⟨_, _, rfl, rfl, rfl⟩⟩, ⟨_, _, rfl, rfl, ⟨_, _, rfl, ⟨_, rfl, h2⟩, rfl⟩⟩⟩, ⟨_, _, rfl, ⟨_, rfl, h3⟩, ⟨_, _, rfl, ⟨_, rfl, h4⟩, ⟨_, _, rfl, ⟨_, rfl, h5⟩, ⟨_, _, rfl, ⟨_, rfl, h6⟩, rfl⟩⟩⟩⟩⟩⟩⟩
structure D.Slot where
  Number : Int
  Down : Bool
  Cell : Int
  Length : Int
def kSlot : AK D.Slot := AK.iso (AK.pair (AK.int .i64) (AK.pair AK.bool (AK.pair (AK.int .i64) (AK.int .i64)))) (fun x => (x.Number, x.Down, x.Cell, x.Length))
def GSlot (x : D.Slot) : Prop := ((Lit.int .i64 x.Number).wf = true) ∧ (True) ∧ ((Lit.int .i64 x.Cell).wf = true) ∧ ((Lit.int .i64 x.Length).wf = true)
theorem RSlot {h : AH} {a : D.Slot} {cs : List Value} (hr : kSlot.R h a cs) : cs = [Value.int .i64 a.Number, Value.bool a.Down, Value.int .i64 a.Cell, Value.int .i64 a.Length] := by
  obtain ⟨_, _, rfl, rfl, ⟨_, _, rfl, rfl, ⟨_, _, rfl, rfl, rfl⟩⟩⟩ := hr
  exact rfl
theorem RSlot.mk {h : AH} {a : D.Slot} : kSlot.R h a [Value.int .i64 a.Number, Value.bool a.Down, Value.int .i64 a.Cell, Value.int .i64 a.Length] := ⟨_, _, rfl, rfl, ⟨_, _, rfl, rfl, ⟨_, _, rfl, rfl, rfl⟩⟩⟩
theorem ok23 : AOpens Try.prog 23 kGrid GGrid := aopens_mono (aopens_struct (P := Try.prog) (t := 23) (fun x : D.Grid => (x.Rows, x.Cols, x.Cells)) (fun x => ⟨x.1, x.2.1, x.2.2⟩) (fun _ => rfl) Try.underlying23 (by kernel_rfl) (afields_cons rfl (by kernel_rfl) (aopens_int (k := .i64) Try.underlying3) (afields_cons rfl (by kernel_rfl) (aopens_int (k := .i64) Try.underlying3) (afields_one rfl (by kernel_rfl) (aopens_string Try.underlying9))))) (fun _ h => h)
theorem ok182 : AOpens Try.prog 182 kStep GStep := aopens_mono (aopens_struct (P := Try.prog) (t := 182) (fun x : D.Step => (x.Kind, x.Word, x.A, x.B)) (fun x => ⟨x.1, x.2.1, x.2.2.1, x.2.2.2⟩) (fun _ => rfl) Try.underlying182 (by kernel_rfl) (afields_cons rfl (by kernel_rfl) (aopens_int (k := .i64) Try.underlying3) (afields_cons rfl (by kernel_rfl) (aopens_string Try.underlying9) (afields_cons rfl (by kernel_rfl) (aopens_int (k := .i64) Try.underlying3) (afields_one rfl (by kernel_rfl) (aopens_int (k := .i64) Try.underlying3)))))) (fun _ h => h)
theorem ok64 : AOpens Try.prog 64 kClue GClue := aopens_mono (aopens_struct (P := Try.prog) (t := 64) (fun x : D.Clue => (x.Sense, x.Play)) (fun x => ⟨x.1, x.2⟩) (fun _ => rfl) Try.underlying64 (by kernel_rfl) (afields_cons rfl (by kernel_rfl) (aopens_int (k := .i64) Try.underlying3) (afields_one rfl (by kernel_rfl) (aopens_slice Try.underlying62 (by kernel_rfl) (of_decide_eq_true (by kernel_rfl)) ok182)))) (fun _ h => h)
theorem ok26 : AOpens Try.prog 26 kDraft GDraft := aopens_mono (aopens_struct (P := Try.prog) (t := 26) (fun x : D.Draft => (x.Grid, x.Fill, x.Clues, x.Version)) (fun x => ⟨x.1, x.2.1, x.2.2.1, x.2.2.2⟩) (fun _ => rfl) Try.underlying26 (by kernel_rfl) (afields_cons rfl (by kernel_rfl) ok23 (afields_cons rfl (by kernel_rfl) (aopens_string Try.underlying9) (afields_cons rfl (by kernel_rfl) (aopens_slice Try.underlying24 (by kernel_rfl) (of_decide_eq_true (by kernel_rfl)) ok64) (afields_one rfl (by kernel_rfl) (aopens_int (k := .i64) Try.underlying3)))))) (fun _ h => h)
theorem ok153 : AOpens Try.prog 153 kListed GListed := aopens_mono (aopens_struct (P := Try.prog) (t := 153) (fun x : D.Listed => (x.Word, x.From, x.Until, x.Score)) (fun x => ⟨x.1, x.2.1, x.2.2.1, x.2.2.2⟩) (fun _ => rfl) Try.underlying153 (by kernel_rfl) (afields_cons rfl (by kernel_rfl) (aopens_string Try.underlying9) (afields_cons rfl (by kernel_rfl) (aopens_int (k := .i64) Try.underlying3) (afields_cons rfl (by kernel_rfl) (aopens_int (k := .i64) Try.underlying3) (afields_one rfl (by kernel_rfl) (aopens_int (k := .i64) Try.underlying3)))))) (fun _ h => h)
theorem ok155 : AOpens Try.prog 155 kMeaning GMeaning := aopens_mono (aopens_struct (P := Try.prog) (t := 155) (fun x : D.Meaning => (x.Word, x.Sense)) (fun x => ⟨x.1, x.2⟩) (fun _ => rfl) Try.underlying155 (by kernel_rfl) (afields_cons rfl (by kernel_rfl) (aopens_string Try.underlying9) (afields_one rfl (by kernel_rfl) (aopens_int (k := .i64) Try.underlying3)))) (fun _ h => h)
theorem ok158 : AOpens Try.prog 158 kPuzzle GPuzzle := aopens_mono (aopens_struct (P := Try.prog) (t := 158) (fun x : D.Puzzle => (x.Grid, x.Clues, x.Seals, x.Salt)) (fun x => ⟨x.1, x.2.1, x.2.2.1, x.2.2.2⟩) (fun _ => rfl) Try.underlying158 (by kernel_rfl) (afields_cons rfl (by kernel_rfl) ok23 (afields_cons rfl (by kernel_rfl) (aopens_slice Try.underlying24 (by kernel_rfl) (of_decide_eq_true (by kernel_rfl)) ok64) (afields_cons rfl (by kernel_rfl) (aopens_slice Try.underlying56 (by kernel_rfl) (of_decide_eq_true (by kernel_rfl)) (aopens_int (k := .i64) Try.underlying3)) (afields_one rfl (by kernel_rfl) (aopens_int (k := .i64) Try.underlying3)))))) (fun _ h => h)
theorem ok160 : AOpens Try.prog 160 kIssue GIssue := aopens_mono (aopens_struct (P := Try.prog) (t := 160) (fun x : D.Issue => (x.Number, x.Puzzle, x.Fill, x.Open, x.Close)) (fun x => ⟨x.1, x.2.1, x.2.2.1, x.2.2.2.1, x.2.2.2.2⟩) (fun _ => rfl) Try.underlying160 (by kernel_rfl) (afields_cons rfl (by kernel_rfl) (aopens_int (k := .i64) Try.underlying3) (afields_cons rfl (by kernel_rfl) ok158 (afields_cons rfl (by kernel_rfl) (aopens_string Try.underlying9) (afields_cons rfl (by kernel_rfl) (aopens_int (k := .i64) Try.underlying3) (afields_one rfl (by kernel_rfl) (aopens_int (k := .i64) Try.underlying3))))))) (fun _ h => h)
theorem ok162 : AOpens Try.prog 162 kUsed GUsed := aopens_mono (aopens_struct (P := Try.prog) (t := 162) (fun x : D.Used => (x.Word, x.Issue)) (fun x => ⟨x.1, x.2⟩) (fun _ => rfl) Try.underlying162 (by kernel_rfl) (afields_cons rfl (by kernel_rfl) (aopens_string Try.underlying9) (afields_one rfl (by kernel_rfl) (aopens_int (k := .i64) Try.underlying3)))) (fun _ h => h)
theorem ok165 : AOpens Try.prog 165 kCorrection GCorrection := aopens_mono (aopens_struct (P := Try.prog) (t := 165) (fun x : D.Correction => (x.Issue, x.Slot, x.Clue, x.Tick)) (fun x => ⟨x.1, x.2.1, x.2.2.1, x.2.2.2⟩) (fun _ => rfl) Try.underlying165 (by kernel_rfl) (afields_cons rfl (by kernel_rfl) (aopens_int (k := .i64) Try.underlying3) (afields_cons rfl (by kernel_rfl) (aopens_int (k := .i64) Try.underlying3) (afields_cons rfl (by kernel_rfl) ok64 (afields_one rfl (by kernel_rfl) (aopens_int (k := .i64) Try.underlying3)))))) (fun _ h => h)
theorem ok167 : AOpens Try.prog 167 kEntry GEntry := aopens_mono (aopens_struct (P := Try.prog) (t := 167) (fun x : D.Entry => (x.Player, x.Issue, x.Tick, x.Fill)) (fun x => ⟨x.1, x.2.1, x.2.2.1, x.2.2.2⟩) (fun _ => rfl) Try.underlying167 (by kernel_rfl) (afields_cons rfl (by kernel_rfl) (aopens_int (k := .i64) Try.underlying3) (afields_cons rfl (by kernel_rfl) (aopens_int (k := .i64) Try.underlying3) (afields_cons rfl (by kernel_rfl) (aopens_int (k := .i64) Try.underlying3) (afields_one rfl (by kernel_rfl) (aopens_string Try.underlying9)))))) (fun _ h => h)
theorem ok43 : AOpens Try.prog 43 kHouse GHouse := aopens_mono (aopens_struct (P := Try.prog) (t := 43) (fun x : D.House => (x.List, x.Dict, x.Desk, x.Issues, x.Uses, x.Corrections, x.Entries, x.Now)) (fun x => ⟨x.1, x.2.1, x.2.2.1, x.2.2.2.1, x.2.2.2.2.1, x.2.2.2.2.2.1, x.2.2.2.2.2.2.1, x.2.2.2.2.2.2.2⟩) (fun _ => rfl) Try.underlying43 (by kernel_rfl) (afields_cons rfl (by kernel_rfl) (aopens_slice Try.underlying36 (by kernel_rfl) (of_decide_eq_true (by kernel_rfl)) ok153) (afields_cons rfl (by kernel_rfl) (aopens_slice Try.underlying37 (by kernel_rfl) (of_decide_eq_true (by kernel_rfl)) ok155) (afields_cons rfl (by kernel_rfl) ok26 (afields_cons rfl (by kernel_rfl) (aopens_slice Try.underlying38 (by kernel_rfl) (of_decide_eq_true (by kernel_rfl)) ok160) (afields_cons rfl (by kernel_rfl) (aopens_slice Try.underlying39 (by kernel_rfl) (of_decide_eq_true (by kernel_rfl)) ok162) (afields_cons rfl (by kernel_rfl) (aopens_slice Try.underlying40 (by kernel_rfl) (of_decide_eq_true (by kernel_rfl)) ok165) (afields_cons rfl (by kernel_rfl) (aopens_slice Try.underlying41 (by kernel_rfl) (of_decide_eq_true (by kernel_rfl)) ok167) (afields_one rfl (by kernel_rfl) (aopens_int (k := .i64) Try.underlying3)))))))))) (fun _ h => h)
/-! ### facts of the types -/
theorem st1 : isStruct Try.prog 1 = some false := by kernel_rfl
theorem sz1 : Try.prog.cellsOf 1 = 1 := by kernel_rfl
theorem if1 : (Try.prog.info? 1).isSome = true := by kernel_rfl
theorem st2 : isStruct Try.prog 2 = some false := by kernel_rfl
theorem sz2 : Try.prog.cellsOf 2 = 1 := by kernel_rfl
theorem if2 : (Try.prog.info? 2).isSome = true := by kernel_rfl
theorem zo2 : zeroOf Try.prog 2 = some (.int .i64 0) := by kernel_rfl
theorem zc2 : closedV (.int .i64 0) = true := by kernel_rfl
theorem st3 : isStruct Try.prog 3 = some false := by kernel_rfl
theorem sz3 : Try.prog.cellsOf 3 = 1 := by kernel_rfl
theorem if3 : (Try.prog.info? 3).isSome = true := by kernel_rfl
theorem zo3 : zeroOf Try.prog 3 = some (.int .i64 0) := by kernel_rfl
theorem zc3 : closedV (.int .i64 0) = true := by kernel_rfl
theorem st4 : isStruct Try.prog 4 = some false := by kernel_rfl
theorem sz4 : Try.prog.cellsOf 4 = 1 := by kernel_rfl
theorem if4 : (Try.prog.info? 4).isSome = true := by kernel_rfl
theorem zo4 : zeroOf Try.prog 4 = some (.bool false) := by kernel_rfl
theorem zc4 : closedV (.bool false) = true := by kernel_rfl
theorem st5 : isStruct Try.prog 5 = some false := by kernel_rfl
theorem sz5 : Try.prog.cellsOf 5 = 1 := by kernel_rfl
theorem if5 : (Try.prog.info? 5).isSome = true := by kernel_rfl
theorem zo5 : zeroOf Try.prog 5 = some (.int .u8 0) := by kernel_rfl
theorem zc5 : closedV (.int .u8 0) = true := by kernel_rfl
theorem st7 : isStruct Try.prog 7 = some true := by kernel_rfl
theorem sz7 : Try.prog.cellsOf 7 = 4 := by kernel_rfl
theorem if7 : (Try.prog.info? 7).isSome = true := by kernel_rfl
theorem zo7 : zeroOf Try.prog 7 = some (.agg #[.int .i64 0, .int .i64 0, .bool false, .int .u8 0]) := by kernel_rfl
theorem zc7 : closedV (.agg #[.int .i64 0, .int .i64 0, .bool false, .int .u8 0]) = true := by kernel_rfl
theorem st9 : isStruct Try.prog 9 = some false := by kernel_rfl
theorem sz9 : Try.prog.cellsOf 9 = 1 := by kernel_rfl
theorem if9 : (Try.prog.info? 9).isSome = true := by kernel_rfl
theorem zo9 : zeroOf Try.prog 9 = some (.string ByteArray.empty) := by kernel_rfl
theorem zc9 : closedV (.string ByteArray.empty) = true := by kernel_rfl
theorem st12 : isStruct Try.prog 12 = some false := by kernel_rfl
theorem sz12 : Try.prog.cellsOf 12 = 1 := by kernel_rfl
theorem if12 : (Try.prog.info? 12).isSome = true := by kernel_rfl
theorem zo12 : zeroOf Try.prog 12 = some (.int .u64 0) := by kernel_rfl
theorem zc12 : closedV (.int .u64 0) = true := by kernel_rfl
theorem st13 : isStruct Try.prog 13 = some true := by kernel_rfl
theorem sz13 : Try.prog.cellsOf 13 = 2 := by kernel_rfl
theorem if13 : (Try.prog.info? 13).isSome = true := by kernel_rfl
theorem zo13 : zeroOf Try.prog 13 = some (.agg #[.string ByteArray.empty, .int .u64 0]) := by kernel_rfl
theorem zc13 : closedV (.agg #[.string ByteArray.empty, .int .u64 0]) = true := by kernel_rfl
theorem st15 : isStruct Try.prog 15 = some false := by kernel_rfl
theorem sz15 : Try.prog.cellsOf 15 = 1 := by kernel_rfl
theorem if15 : (Try.prog.info? 15).isSome = true := by kernel_rfl
theorem st16 : isStruct Try.prog 16 = some false := by kernel_rfl
theorem sz16 : Try.prog.cellsOf 16 = 1 := by kernel_rfl
theorem if16 : (Try.prog.info? 16).isSome = true := by kernel_rfl
theorem st17 : isStruct Try.prog 17 = some false := by kernel_rfl
theorem sz17 : Try.prog.cellsOf 17 = 1 := by kernel_rfl
theorem if17 : (Try.prog.info? 17).isSome = true := by kernel_rfl
theorem st21 : isStruct Try.prog 21 = some false := by kernel_rfl
theorem sz21 : Try.prog.cellsOf 21 = 1 := by kernel_rfl
theorem if21 : (Try.prog.info? 21).isSome = true := by kernel_rfl
theorem zo21 : zeroOf Try.prog 21 = some (.int .i32 0) := by kernel_rfl
theorem zc21 : closedV (.int .i32 0) = true := by kernel_rfl
theorem st22 : isStruct Try.prog 22 = some true := by kernel_rfl
theorem sz22 : Try.prog.cellsOf 22 = 3 := by kernel_rfl
theorem if22 : (Try.prog.info? 22).isSome = true := by kernel_rfl
theorem zo22 : zeroOf Try.prog 22 = some (.agg #[.int .i64 0, .int .i64 0, .string ByteArray.empty]) := by kernel_rfl
theorem zc22 : closedV (.agg #[.int .i64 0, .int .i64 0, .string ByteArray.empty]) = true := by kernel_rfl
theorem st23 : isStruct Try.prog 23 = some true := by kernel_rfl
theorem sz23 : Try.prog.cellsOf 23 = 3 := by kernel_rfl
theorem if23 : (Try.prog.info? 23).isSome = true := by kernel_rfl
theorem zo23 : zeroOf Try.prog 23 = some (.agg #[.int .i64 0, .int .i64 0, .string ByteArray.empty]) := by kernel_rfl
theorem zc23 : closedV (.agg #[.int .i64 0, .int .i64 0, .string ByteArray.empty]) = true := by kernel_rfl
theorem st24 : isStruct Try.prog 24 = some false := by kernel_rfl
theorem sz24 : Try.prog.cellsOf 24 = 1 := by kernel_rfl
theorem if24 : (Try.prog.info? 24).isSome = true := by kernel_rfl
theorem zo24 : zeroOf Try.prog 24 = some (.slice none 0 0) := by kernel_rfl
theorem zc24 : closedV (.slice none 0 0) = true := by kernel_rfl
theorem st25 : isStruct Try.prog 25 = some true := by kernel_rfl
theorem sz25 : Try.prog.cellsOf 25 = 6 := by kernel_rfl
theorem if25 : (Try.prog.info? 25).isSome = true := by kernel_rfl
theorem zo25 : zeroOf Try.prog 25 = some (.agg #[.int .i64 0, .int .i64 0, .string ByteArray.empty, .string ByteArray.empty, .slice none 0 0, .int .i64 0]) := by kernel_rfl
theorem zc25 : closedV (.agg #[.int .i64 0, .int .i64 0, .string ByteArray.empty, .string ByteArray.empty, .slice none 0 0, .int .i64 0]) = true := by kernel_rfl
theorem st26 : isStruct Try.prog 26 = some true := by kernel_rfl
theorem sz26 : Try.prog.cellsOf 26 = 6 := by kernel_rfl
theorem if26 : (Try.prog.info? 26).isSome = true := by kernel_rfl
theorem zo26 : zeroOf Try.prog 26 = some (.agg #[.int .i64 0, .int .i64 0, .string ByteArray.empty, .string ByteArray.empty, .slice none 0 0, .int .i64 0]) := by kernel_rfl
theorem zc26 : closedV (.agg #[.int .i64 0, .int .i64 0, .string ByteArray.empty, .string ByteArray.empty, .slice none 0 0, .int .i64 0]) = true := by kernel_rfl
theorem st27 : isStruct Try.prog 27 = some false := by kernel_rfl
theorem sz27 : Try.prog.cellsOf 27 = 1 := by kernel_rfl
theorem if27 : (Try.prog.info? 27).isSome = true := by kernel_rfl
theorem st28 : isStruct Try.prog 28 = some false := by kernel_rfl
theorem sz28 : Try.prog.cellsOf 28 = 1 := by kernel_rfl
theorem if28 : (Try.prog.info? 28).isSome = true := by kernel_rfl
theorem st29 : isStruct Try.prog 29 = some true := by kernel_rfl
theorem sz29 : Try.prog.cellsOf 29 = 3 := by kernel_rfl
theorem if29 : (Try.prog.info? 29).isSome = true := by kernel_rfl
theorem zo29 : zeroOf Try.prog 29 = some (.agg #[.int .i64 0, .int .i64 0, .string ByteArray.empty]) := by kernel_rfl
theorem zc29 : closedV (.agg #[.int .i64 0, .int .i64 0, .string ByteArray.empty]) = true := by kernel_rfl
theorem st30 : isStruct Try.prog 30 = some false := by kernel_rfl
theorem sz30 : Try.prog.cellsOf 30 = 1 := by kernel_rfl
theorem if30 : (Try.prog.info? 30).isSome = true := by kernel_rfl
theorem zo30 : zeroOf Try.prog 30 = some (.slice none 0 0) := by kernel_rfl
theorem zc30 : closedV (.slice none 0 0) = true := by kernel_rfl
theorem st31 : isStruct Try.prog 31 = some true := by kernel_rfl
theorem sz31 : Try.prog.cellsOf 31 = 6 := by kernel_rfl
theorem if31 : (Try.prog.info? 31).isSome = true := by kernel_rfl
theorem zo31 : zeroOf Try.prog 31 = some (.agg #[.int .i64 0, .int .i64 0, .string ByteArray.empty, .string ByteArray.empty, .slice none 0 0, .int .i64 0]) := by kernel_rfl
theorem zc31 : closedV (.agg #[.int .i64 0, .int .i64 0, .string ByteArray.empty, .string ByteArray.empty, .slice none 0 0, .int .i64 0]) = true := by kernel_rfl
theorem st32 : isStruct Try.prog 32 = some true := by kernel_rfl
theorem sz32 : Try.prog.cellsOf 32 = 6 := by kernel_rfl
theorem if32 : (Try.prog.info? 32).isSome = true := by kernel_rfl
theorem zo32 : zeroOf Try.prog 32 = some (.agg #[.int .i64 0, .int .i64 0, .string ByteArray.empty, .string ByteArray.empty, .slice none 0 0, .int .i64 0]) := by kernel_rfl
theorem zc32 : closedV (.agg #[.int .i64 0, .int .i64 0, .string ByteArray.empty, .string ByteArray.empty, .slice none 0 0, .int .i64 0]) = true := by kernel_rfl
theorem st33 : isStruct Try.prog 33 = some false := by kernel_rfl
theorem sz33 : Try.prog.cellsOf 33 = 1 := by kernel_rfl
theorem if33 : (Try.prog.info? 33).isSome = true := by kernel_rfl
theorem st34 : isStruct Try.prog 34 = some false := by kernel_rfl
theorem sz34 : Try.prog.cellsOf 34 = 1 := by kernel_rfl
theorem if34 : (Try.prog.info? 34).isSome = true := by kernel_rfl
theorem st35 : isStruct Try.prog 35 = some false := by kernel_rfl
theorem sz35 : Try.prog.cellsOf 35 = 1 := by kernel_rfl
theorem if35 : (Try.prog.info? 35).isSome = true := by kernel_rfl
theorem st36 : isStruct Try.prog 36 = some false := by kernel_rfl
theorem sz36 : Try.prog.cellsOf 36 = 1 := by kernel_rfl
theorem if36 : (Try.prog.info? 36).isSome = true := by kernel_rfl
theorem zo36 : zeroOf Try.prog 36 = some (.slice none 0 0) := by kernel_rfl
theorem zc36 : closedV (.slice none 0 0) = true := by kernel_rfl
theorem st37 : isStruct Try.prog 37 = some false := by kernel_rfl
theorem sz37 : Try.prog.cellsOf 37 = 1 := by kernel_rfl
theorem if37 : (Try.prog.info? 37).isSome = true := by kernel_rfl
theorem zo37 : zeroOf Try.prog 37 = some (.slice none 0 0) := by kernel_rfl
theorem zc37 : closedV (.slice none 0 0) = true := by kernel_rfl
theorem st38 : isStruct Try.prog 38 = some false := by kernel_rfl
theorem sz38 : Try.prog.cellsOf 38 = 1 := by kernel_rfl
theorem if38 : (Try.prog.info? 38).isSome = true := by kernel_rfl
theorem zo38 : zeroOf Try.prog 38 = some (.slice none 0 0) := by kernel_rfl
theorem zc38 : closedV (.slice none 0 0) = true := by kernel_rfl
theorem st39 : isStruct Try.prog 39 = some false := by kernel_rfl
theorem sz39 : Try.prog.cellsOf 39 = 1 := by kernel_rfl
theorem if39 : (Try.prog.info? 39).isSome = true := by kernel_rfl
theorem zo39 : zeroOf Try.prog 39 = some (.slice none 0 0) := by kernel_rfl
theorem zc39 : closedV (.slice none 0 0) = true := by kernel_rfl
theorem st40 : isStruct Try.prog 40 = some false := by kernel_rfl
theorem sz40 : Try.prog.cellsOf 40 = 1 := by kernel_rfl
theorem if40 : (Try.prog.info? 40).isSome = true := by kernel_rfl
theorem zo40 : zeroOf Try.prog 40 = some (.slice none 0 0) := by kernel_rfl
theorem zc40 : closedV (.slice none 0 0) = true := by kernel_rfl
theorem st41 : isStruct Try.prog 41 = some false := by kernel_rfl
theorem sz41 : Try.prog.cellsOf 41 = 1 := by kernel_rfl
theorem if41 : (Try.prog.info? 41).isSome = true := by kernel_rfl
theorem zo41 : zeroOf Try.prog 41 = some (.slice none 0 0) := by kernel_rfl
theorem zc41 : closedV (.slice none 0 0) = true := by kernel_rfl
theorem st42 : isStruct Try.prog 42 = some true := by kernel_rfl
theorem sz42 : Try.prog.cellsOf 42 = 13 := by kernel_rfl
theorem if42 : (Try.prog.info? 42).isSome = true := by kernel_rfl
theorem zo42 : zeroOf Try.prog 42 = some (.agg #[.slice none 0 0, .slice none 0 0, .int .i64 0, .int .i64 0, .string ByteArray.empty, .string ByteArray.empty, .slice none 0 0, .int .i64 0, .slice none 0 0, .slice none 0 0, .slice none 0 0, .slice none 0 0, .int .i64 0]) := by kernel_rfl
theorem zc42 : closedV (.agg #[.slice none 0 0, .slice none 0 0, .int .i64 0, .int .i64 0, .string ByteArray.empty, .string ByteArray.empty, .slice none 0 0, .int .i64 0, .slice none 0 0, .slice none 0 0, .slice none 0 0, .slice none 0 0, .int .i64 0]) = true := by kernel_rfl
theorem st43 : isStruct Try.prog 43 = some true := by kernel_rfl
theorem sz43 : Try.prog.cellsOf 43 = 13 := by kernel_rfl
theorem if43 : (Try.prog.info? 43).isSome = true := by kernel_rfl
theorem zo43 : zeroOf Try.prog 43 = some (.agg #[.slice none 0 0, .slice none 0 0, .int .i64 0, .int .i64 0, .string ByteArray.empty, .string ByteArray.empty, .slice none 0 0, .int .i64 0, .slice none 0 0, .slice none 0 0, .slice none 0 0, .slice none 0 0, .int .i64 0]) := by kernel_rfl
theorem zc43 : closedV (.agg #[.slice none 0 0, .slice none 0 0, .int .i64 0, .int .i64 0, .string ByteArray.empty, .string ByteArray.empty, .slice none 0 0, .int .i64 0, .slice none 0 0, .slice none 0 0, .slice none 0 0, .slice none 0 0, .int .i64 0]) = true := by kernel_rfl
theorem st44 : isStruct Try.prog 44 = some false := by kernel_rfl
theorem sz44 : Try.prog.cellsOf 44 = 1 := by kernel_rfl
theorem if44 : (Try.prog.info? 44).isSome = true := by kernel_rfl
theorem st45 : isStruct Try.prog 45 = some false := by kernel_rfl
theorem sz45 : Try.prog.cellsOf 45 = 1 := by kernel_rfl
theorem if45 : (Try.prog.info? 45).isSome = true := by kernel_rfl
theorem st46 : isStruct Try.prog 46 = some false := by kernel_rfl
theorem sz46 : Try.prog.cellsOf 46 = 1 := by kernel_rfl
theorem if46 : (Try.prog.info? 46).isSome = true := by kernel_rfl
theorem zo46 : zeroOf Try.prog 46 = some (.slice none 0 0) := by kernel_rfl
theorem zc46 : closedV (.slice none 0 0) = true := by kernel_rfl
theorem st47 : isStruct Try.prog 47 = some false := by kernel_rfl
theorem sz47 : Try.prog.cellsOf 47 = 1 := by kernel_rfl
theorem if47 : (Try.prog.info? 47).isSome = true := by kernel_rfl
theorem zo47 : zeroOf Try.prog 47 = some (.slice none 0 0) := by kernel_rfl
theorem zc47 : closedV (.slice none 0 0) = true := by kernel_rfl
theorem st48 : isStruct Try.prog 48 = some false := by kernel_rfl
theorem sz48 : Try.prog.cellsOf 48 = 1 := by kernel_rfl
theorem if48 : (Try.prog.info? 48).isSome = true := by kernel_rfl
theorem zo48 : zeroOf Try.prog 48 = some (.slice none 0 0) := by kernel_rfl
theorem zc48 : closedV (.slice none 0 0) = true := by kernel_rfl
theorem st49 : isStruct Try.prog 49 = some false := by kernel_rfl
theorem sz49 : Try.prog.cellsOf 49 = 1 := by kernel_rfl
theorem if49 : (Try.prog.info? 49).isSome = true := by kernel_rfl
theorem zo49 : zeroOf Try.prog 49 = some (.slice none 0 0) := by kernel_rfl
theorem zc49 : closedV (.slice none 0 0) = true := by kernel_rfl
theorem st50 : isStruct Try.prog 50 = some false := by kernel_rfl
theorem sz50 : Try.prog.cellsOf 50 = 1 := by kernel_rfl
theorem if50 : (Try.prog.info? 50).isSome = true := by kernel_rfl
theorem zo50 : zeroOf Try.prog 50 = some (.slice none 0 0) := by kernel_rfl
theorem zc50 : closedV (.slice none 0 0) = true := by kernel_rfl
theorem st51 : isStruct Try.prog 51 = some false := by kernel_rfl
theorem sz51 : Try.prog.cellsOf 51 = 1 := by kernel_rfl
theorem if51 : (Try.prog.info? 51).isSome = true := by kernel_rfl
theorem zo51 : zeroOf Try.prog 51 = some (.slice none 0 0) := by kernel_rfl
theorem zc51 : closedV (.slice none 0 0) = true := by kernel_rfl
theorem st52 : isStruct Try.prog 52 = some true := by kernel_rfl
theorem sz52 : Try.prog.cellsOf 52 = 13 := by kernel_rfl
theorem if52 : (Try.prog.info? 52).isSome = true := by kernel_rfl
theorem zo52 : zeroOf Try.prog 52 = some (.agg #[.slice none 0 0, .slice none 0 0, .int .i64 0, .int .i64 0, .string ByteArray.empty, .string ByteArray.empty, .slice none 0 0, .int .i64 0, .slice none 0 0, .slice none 0 0, .slice none 0 0, .slice none 0 0, .int .i64 0]) := by kernel_rfl
theorem zc52 : closedV (.agg #[.slice none 0 0, .slice none 0 0, .int .i64 0, .int .i64 0, .string ByteArray.empty, .string ByteArray.empty, .slice none 0 0, .int .i64 0, .slice none 0 0, .slice none 0 0, .slice none 0 0, .slice none 0 0, .int .i64 0]) = true := by kernel_rfl
theorem st53 : isStruct Try.prog 53 = some true := by kernel_rfl
theorem sz53 : Try.prog.cellsOf 53 = 13 := by kernel_rfl
theorem if53 : (Try.prog.info? 53).isSome = true := by kernel_rfl
theorem zo53 : zeroOf Try.prog 53 = some (.agg #[.slice none 0 0, .slice none 0 0, .int .i64 0, .int .i64 0, .string ByteArray.empty, .string ByteArray.empty, .slice none 0 0, .int .i64 0, .slice none 0 0, .slice none 0 0, .slice none 0 0, .slice none 0 0, .int .i64 0]) := by kernel_rfl
theorem zc53 : closedV (.agg #[.slice none 0 0, .slice none 0 0, .int .i64 0, .int .i64 0, .string ByteArray.empty, .string ByteArray.empty, .slice none 0 0, .int .i64 0, .slice none 0 0, .slice none 0 0, .slice none 0 0, .slice none 0 0, .int .i64 0]) = true := by kernel_rfl
theorem st54 : isStruct Try.prog 54 = some false := by kernel_rfl
theorem sz54 : Try.prog.cellsOf 54 = 1 := by kernel_rfl
theorem if54 : (Try.prog.info? 54).isSome = true := by kernel_rfl
theorem st55 : isStruct Try.prog 55 = some false := by kernel_rfl
theorem sz55 : Try.prog.cellsOf 55 = 1 := by kernel_rfl
theorem if55 : (Try.prog.info? 55).isSome = true := by kernel_rfl
theorem st56 : isStruct Try.prog 56 = some false := by kernel_rfl
theorem sz56 : Try.prog.cellsOf 56 = 1 := by kernel_rfl
theorem if56 : (Try.prog.info? 56).isSome = true := by kernel_rfl
theorem zo56 : zeroOf Try.prog 56 = some (.slice none 0 0) := by kernel_rfl
theorem zc56 : closedV (.slice none 0 0) = true := by kernel_rfl
theorem st57 : isStruct Try.prog 57 = some false := by kernel_rfl
theorem sz57 : Try.prog.cellsOf 57 = 1 := by kernel_rfl
theorem if57 : (Try.prog.info? 57).isSome = true := by kernel_rfl
theorem st58 : isStruct Try.prog 58 = some false := by kernel_rfl
theorem sz58 : Try.prog.cellsOf 58 = 1 := by kernel_rfl
theorem if58 : (Try.prog.info? 58).isSome = true := by kernel_rfl
theorem st59 : isStruct Try.prog 59 = some false := by kernel_rfl
theorem sz59 : Try.prog.cellsOf 59 = 1 := by kernel_rfl
theorem if59 : (Try.prog.info? 59).isSome = true := by kernel_rfl
theorem st60 : isStruct Try.prog 60 = some false := by kernel_rfl
theorem sz60 : Try.prog.cellsOf 60 = 1 := by kernel_rfl
theorem if60 : (Try.prog.info? 60).isSome = true := by kernel_rfl
theorem st61 : isStruct Try.prog 61 = some false := by kernel_rfl
theorem sz61 : Try.prog.cellsOf 61 = 1 := by kernel_rfl
theorem if61 : (Try.prog.info? 61).isSome = true := by kernel_rfl
theorem st62 : isStruct Try.prog 62 = some false := by kernel_rfl
theorem sz62 : Try.prog.cellsOf 62 = 1 := by kernel_rfl
theorem if62 : (Try.prog.info? 62).isSome = true := by kernel_rfl
theorem zo62 : zeroOf Try.prog 62 = some (.slice none 0 0) := by kernel_rfl
theorem zc62 : closedV (.slice none 0 0) = true := by kernel_rfl
theorem st63 : isStruct Try.prog 63 = some true := by kernel_rfl
theorem sz63 : Try.prog.cellsOf 63 = 2 := by kernel_rfl
theorem if63 : (Try.prog.info? 63).isSome = true := by kernel_rfl
theorem zo63 : zeroOf Try.prog 63 = some (.agg #[.int .i64 0, .slice none 0 0]) := by kernel_rfl
theorem zc63 : closedV (.agg #[.int .i64 0, .slice none 0 0]) = true := by kernel_rfl
theorem st64 : isStruct Try.prog 64 = some true := by kernel_rfl
theorem sz64 : Try.prog.cellsOf 64 = 2 := by kernel_rfl
theorem if64 : (Try.prog.info? 64).isSome = true := by kernel_rfl
theorem zo64 : zeroOf Try.prog 64 = some (.agg #[.int .i64 0, .slice none 0 0]) := by kernel_rfl
theorem zc64 : closedV (.agg #[.int .i64 0, .slice none 0 0]) = true := by kernel_rfl
theorem st65 : isStruct Try.prog 65 = some false := by kernel_rfl
theorem sz65 : Try.prog.cellsOf 65 = 1 := by kernel_rfl
theorem if65 : (Try.prog.info? 65).isSome = true := by kernel_rfl
theorem st67 : isStruct Try.prog 67 = some false := by kernel_rfl
theorem sz67 : Try.prog.cellsOf 67 = 1 := by kernel_rfl
theorem if67 : (Try.prog.info? 67).isSome = true := by kernel_rfl
theorem st68 : isStruct Try.prog 68 = some false := by kernel_rfl
theorem sz68 : Try.prog.cellsOf 68 = 1 := by kernel_rfl
theorem if68 : (Try.prog.info? 68).isSome = true := by kernel_rfl
theorem zo68 : zeroOf Try.prog 68 = some (.slice none 0 0) := by kernel_rfl
theorem zc68 : closedV (.slice none 0 0) = true := by kernel_rfl
theorem st69 : isStruct Try.prog 69 = some true := by kernel_rfl
theorem sz69 : Try.prog.cellsOf 69 = 2 := by kernel_rfl
theorem if69 : (Try.prog.info? 69).isSome = true := by kernel_rfl
theorem zo69 : zeroOf Try.prog 69 = some (.agg #[.int .i64 0, .slice none 0 0]) := by kernel_rfl
theorem zc69 : closedV (.agg #[.int .i64 0, .slice none 0 0]) = true := by kernel_rfl
theorem st70 : isStruct Try.prog 70 = some true := by kernel_rfl
theorem sz70 : Try.prog.cellsOf 70 = 2 := by kernel_rfl
theorem if70 : (Try.prog.info? 70).isSome = true := by kernel_rfl
theorem zo70 : zeroOf Try.prog 70 = some (.agg #[.int .i64 0, .slice none 0 0]) := by kernel_rfl
theorem zc70 : closedV (.agg #[.int .i64 0, .slice none 0 0]) = true := by kernel_rfl
theorem st71 : isStruct Try.prog 71 = some false := by kernel_rfl
theorem sz71 : Try.prog.cellsOf 71 = 1 := by kernel_rfl
theorem if71 : (Try.prog.info? 71).isSome = true := by kernel_rfl
theorem st72 : isStruct Try.prog 72 = some false := by kernel_rfl
theorem sz72 : Try.prog.cellsOf 72 = 1 := by kernel_rfl
theorem if72 : (Try.prog.info? 72).isSome = true := by kernel_rfl
theorem st73 : isStruct Try.prog 73 = some false := by kernel_rfl
theorem sz73 : Try.prog.cellsOf 73 = 1 := by kernel_rfl
theorem if73 : (Try.prog.info? 73).isSome = true := by kernel_rfl
theorem st74 : isStruct Try.prog 74 = some false := by kernel_rfl
theorem sz74 : Try.prog.cellsOf 74 = 1 := by kernel_rfl
theorem if74 : (Try.prog.info? 74).isSome = true := by kernel_rfl
theorem st75 : isStruct Try.prog 75 = some false := by kernel_rfl
theorem sz75 : Try.prog.cellsOf 75 = 1 := by kernel_rfl
theorem if75 : (Try.prog.info? 75).isSome = true := by kernel_rfl
theorem st76 : isStruct Try.prog 76 = some false := by kernel_rfl
theorem sz76 : Try.prog.cellsOf 76 = 1 := by kernel_rfl
theorem if76 : (Try.prog.info? 76).isSome = true := by kernel_rfl
theorem st77 : isStruct Try.prog 77 = some false := by kernel_rfl
theorem sz77 : Try.prog.cellsOf 77 = 1 := by kernel_rfl
theorem if77 : (Try.prog.info? 77).isSome = true := by kernel_rfl
theorem st78 : isStruct Try.prog 78 = some false := by kernel_rfl
theorem sz78 : Try.prog.cellsOf 78 = 1 := by kernel_rfl
theorem if78 : (Try.prog.info? 78).isSome = true := by kernel_rfl
theorem st79 : isStruct Try.prog 79 = some false := by kernel_rfl
theorem sz79 : Try.prog.cellsOf 79 = 1 := by kernel_rfl
theorem if79 : (Try.prog.info? 79).isSome = true := by kernel_rfl
theorem st80 : isStruct Try.prog 80 = some false := by kernel_rfl
theorem sz80 : Try.prog.cellsOf 80 = 1 := by kernel_rfl
theorem if80 : (Try.prog.info? 80).isSome = true := by kernel_rfl
theorem st81 : isStruct Try.prog 81 = some false := by kernel_rfl
theorem sz81 : Try.prog.cellsOf 81 = 1 := by kernel_rfl
theorem if81 : (Try.prog.info? 81).isSome = true := by kernel_rfl
theorem st82 : isStruct Try.prog 82 = some false := by kernel_rfl
theorem sz82 : Try.prog.cellsOf 82 = 1 := by kernel_rfl
theorem if82 : (Try.prog.info? 82).isSome = true := by kernel_rfl
theorem zo82 : zeroOf Try.prog 82 = some (.slice none 0 0) := by kernel_rfl
theorem zc82 : closedV (.slice none 0 0) = true := by kernel_rfl
theorem st83 : isStruct Try.prog 83 = some false := by kernel_rfl
theorem sz83 : Try.prog.cellsOf 83 = 1 := by kernel_rfl
theorem if83 : (Try.prog.info? 83).isSome = true := by kernel_rfl
theorem st84 : isStruct Try.prog 84 = some false := by kernel_rfl
theorem sz84 : Try.prog.cellsOf 84 = 1 := by kernel_rfl
theorem if84 : (Try.prog.info? 84).isSome = true := by kernel_rfl
theorem st85 : isStruct Try.prog 85 = some false := by kernel_rfl
theorem sz85 : Try.prog.cellsOf 85 = 1 := by kernel_rfl
theorem if85 : (Try.prog.info? 85).isSome = true := by kernel_rfl
theorem st86 : isStruct Try.prog 86 = some false := by kernel_rfl
theorem sz86 : Try.prog.cellsOf 86 = 1 := by kernel_rfl
theorem if86 : (Try.prog.info? 86).isSome = true := by kernel_rfl
theorem st87 : isStruct Try.prog 87 = some false := by kernel_rfl
theorem sz87 : Try.prog.cellsOf 87 = 1 := by kernel_rfl
theorem if87 : (Try.prog.info? 87).isSome = true := by kernel_rfl
theorem st88 : isStruct Try.prog 88 = some false := by kernel_rfl
theorem sz88 : Try.prog.cellsOf 88 = 1 := by kernel_rfl
theorem if88 : (Try.prog.info? 88).isSome = true := by kernel_rfl
theorem st89 : isStruct Try.prog 89 = some false := by kernel_rfl
theorem sz89 : Try.prog.cellsOf 89 = 1 := by kernel_rfl
theorem if89 : (Try.prog.info? 89).isSome = true := by kernel_rfl
theorem st90 : isStruct Try.prog 90 = some false := by kernel_rfl
theorem sz90 : Try.prog.cellsOf 90 = 1 := by kernel_rfl
theorem if90 : (Try.prog.info? 90).isSome = true := by kernel_rfl
theorem st91 : isStruct Try.prog 91 = some false := by kernel_rfl
theorem sz91 : Try.prog.cellsOf 91 = 1 := by kernel_rfl
theorem if91 : (Try.prog.info? 91).isSome = true := by kernel_rfl
theorem st92 : isStruct Try.prog 92 = some false := by kernel_rfl
theorem sz92 : Try.prog.cellsOf 92 = 1 := by kernel_rfl
theorem if92 : (Try.prog.info? 92).isSome = true := by kernel_rfl
theorem st93 : isStruct Try.prog 93 = some false := by kernel_rfl
theorem sz93 : Try.prog.cellsOf 93 = 1 := by kernel_rfl
theorem if93 : (Try.prog.info? 93).isSome = true := by kernel_rfl
theorem st94 : isStruct Try.prog 94 = some false := by kernel_rfl
theorem sz94 : Try.prog.cellsOf 94 = 1 := by kernel_rfl
theorem if94 : (Try.prog.info? 94).isSome = true := by kernel_rfl
theorem st95 : isStruct Try.prog 95 = some false := by kernel_rfl
theorem sz95 : Try.prog.cellsOf 95 = 1 := by kernel_rfl
theorem if95 : (Try.prog.info? 95).isSome = true := by kernel_rfl
theorem st96 : isStruct Try.prog 96 = some false := by kernel_rfl
theorem sz96 : Try.prog.cellsOf 96 = 1 := by kernel_rfl
theorem if96 : (Try.prog.info? 96).isSome = true := by kernel_rfl
theorem st97 : isStruct Try.prog 97 = some true := by kernel_rfl
theorem sz97 : Try.prog.cellsOf 97 = 6 := by kernel_rfl
theorem if97 : (Try.prog.info? 97).isSome = true := by kernel_rfl
theorem zo97 : zeroOf Try.prog 97 = some (.agg #[.int .i64 0, .int .i64 0, .string ByteArray.empty, .slice none 0 0, .slice none 0 0, .int .i64 0]) := by kernel_rfl
theorem zc97 : closedV (.agg #[.int .i64 0, .int .i64 0, .string ByteArray.empty, .slice none 0 0, .slice none 0 0, .int .i64 0]) = true := by kernel_rfl
theorem st98 : isStruct Try.prog 98 = some true := by kernel_rfl
theorem sz98 : Try.prog.cellsOf 98 = 6 := by kernel_rfl
theorem if98 : (Try.prog.info? 98).isSome = true := by kernel_rfl
theorem zo98 : zeroOf Try.prog 98 = some (.agg #[.int .i64 0, .int .i64 0, .string ByteArray.empty, .slice none 0 0, .slice none 0 0, .int .i64 0]) := by kernel_rfl
theorem zc98 : closedV (.agg #[.int .i64 0, .int .i64 0, .string ByteArray.empty, .slice none 0 0, .slice none 0 0, .int .i64 0]) = true := by kernel_rfl
theorem st99 : isStruct Try.prog 99 = some true := by kernel_rfl
theorem sz99 : Try.prog.cellsOf 99 = 10 := by kernel_rfl
theorem if99 : (Try.prog.info? 99).isSome = true := by kernel_rfl
theorem zo99 : zeroOf Try.prog 99 = some (.agg #[.int .i64 0, .int .i64 0, .int .i64 0, .string ByteArray.empty, .slice none 0 0, .slice none 0 0, .int .i64 0, .string ByteArray.empty, .int .i64 0, .int .i64 0]) := by kernel_rfl
theorem zc99 : closedV (.agg #[.int .i64 0, .int .i64 0, .int .i64 0, .string ByteArray.empty, .slice none 0 0, .slice none 0 0, .int .i64 0, .string ByteArray.empty, .int .i64 0, .int .i64 0]) = true := by kernel_rfl
theorem st100 : isStruct Try.prog 100 = some true := by kernel_rfl
theorem sz100 : Try.prog.cellsOf 100 = 10 := by kernel_rfl
theorem if100 : (Try.prog.info? 100).isSome = true := by kernel_rfl
theorem zo100 : zeroOf Try.prog 100 = some (.agg #[.int .i64 0, .int .i64 0, .int .i64 0, .string ByteArray.empty, .slice none 0 0, .slice none 0 0, .int .i64 0, .string ByteArray.empty, .int .i64 0, .int .i64 0]) := by kernel_rfl
theorem zc100 : closedV (.agg #[.int .i64 0, .int .i64 0, .int .i64 0, .string ByteArray.empty, .slice none 0 0, .slice none 0 0, .int .i64 0, .string ByteArray.empty, .int .i64 0, .int .i64 0]) = true := by kernel_rfl
theorem st101 : isStruct Try.prog 101 = some true := by kernel_rfl
theorem sz101 : Try.prog.cellsOf 101 = 5 := by kernel_rfl
theorem if101 : (Try.prog.info? 101).isSome = true := by kernel_rfl
theorem zo101 : zeroOf Try.prog 101 = some (.agg #[.int .i64 0, .int .i64 0, .int .i64 0, .slice none 0 0, .int .i64 0]) := by kernel_rfl
theorem zc101 : closedV (.agg #[.int .i64 0, .int .i64 0, .int .i64 0, .slice none 0 0, .int .i64 0]) = true := by kernel_rfl
theorem st102 : isStruct Try.prog 102 = some true := by kernel_rfl
theorem sz102 : Try.prog.cellsOf 102 = 5 := by kernel_rfl
theorem if102 : (Try.prog.info? 102).isSome = true := by kernel_rfl
theorem zo102 : zeroOf Try.prog 102 = some (.agg #[.int .i64 0, .int .i64 0, .int .i64 0, .slice none 0 0, .int .i64 0]) := by kernel_rfl
theorem zc102 : closedV (.agg #[.int .i64 0, .int .i64 0, .int .i64 0, .slice none 0 0, .int .i64 0]) = true := by kernel_rfl
theorem st103 : isStruct Try.prog 103 = some false := by kernel_rfl
theorem sz103 : Try.prog.cellsOf 103 = 1 := by kernel_rfl
theorem if103 : (Try.prog.info? 103).isSome = true := by kernel_rfl
theorem st104 : isStruct Try.prog 104 = some false := by kernel_rfl
theorem sz104 : Try.prog.cellsOf 104 = 1 := by kernel_rfl
theorem if104 : (Try.prog.info? 104).isSome = true := by kernel_rfl
theorem st105 : isStruct Try.prog 105 = some false := by kernel_rfl
theorem sz105 : Try.prog.cellsOf 105 = 1 := by kernel_rfl
theorem if105 : (Try.prog.info? 105).isSome = true := by kernel_rfl
theorem st106 : isStruct Try.prog 106 = some false := by kernel_rfl
theorem sz106 : Try.prog.cellsOf 106 = 1 := by kernel_rfl
theorem if106 : (Try.prog.info? 106).isSome = true := by kernel_rfl
theorem st107 : isStruct Try.prog 107 = some false := by kernel_rfl
theorem sz107 : Try.prog.cellsOf 107 = 1 := by kernel_rfl
theorem if107 : (Try.prog.info? 107).isSome = true := by kernel_rfl
theorem st108 : isStruct Try.prog 108 = some false := by kernel_rfl
theorem sz108 : Try.prog.cellsOf 108 = 1 := by kernel_rfl
theorem if108 : (Try.prog.info? 108).isSome = true := by kernel_rfl
theorem st109 : isStruct Try.prog 109 = some false := by kernel_rfl
theorem sz109 : Try.prog.cellsOf 109 = 1 := by kernel_rfl
theorem if109 : (Try.prog.info? 109).isSome = true := by kernel_rfl
theorem st110 : isStruct Try.prog 110 = some true := by kernel_rfl
theorem sz110 : Try.prog.cellsOf 110 = 4 := by kernel_rfl
theorem if110 : (Try.prog.info? 110).isSome = true := by kernel_rfl
theorem zo110 : zeroOf Try.prog 110 = some (.agg #[.string ByteArray.empty, .int .i64 0, .int .i64 0, .int .i64 0]) := by kernel_rfl
theorem zc110 : closedV (.agg #[.string ByteArray.empty, .int .i64 0, .int .i64 0, .int .i64 0]) = true := by kernel_rfl
theorem st111 : isStruct Try.prog 111 = some true := by kernel_rfl
theorem sz111 : Try.prog.cellsOf 111 = 4 := by kernel_rfl
theorem if111 : (Try.prog.info? 111).isSome = true := by kernel_rfl
theorem zo111 : zeroOf Try.prog 111 = some (.agg #[.string ByteArray.empty, .int .i64 0, .int .i64 0, .int .i64 0]) := by kernel_rfl
theorem zc111 : closedV (.agg #[.string ByteArray.empty, .int .i64 0, .int .i64 0, .int .i64 0]) = true := by kernel_rfl
theorem st112 : isStruct Try.prog 112 = some false := by kernel_rfl
theorem sz112 : Try.prog.cellsOf 112 = 1 := by kernel_rfl
theorem if112 : (Try.prog.info? 112).isSome = true := by kernel_rfl
theorem st113 : isStruct Try.prog 113 = some true := by kernel_rfl
theorem sz113 : Try.prog.cellsOf 113 = 2 := by kernel_rfl
theorem if113 : (Try.prog.info? 113).isSome = true := by kernel_rfl
theorem zo113 : zeroOf Try.prog 113 = some (.agg #[.string ByteArray.empty, .int .i64 0]) := by kernel_rfl
theorem zc113 : closedV (.agg #[.string ByteArray.empty, .int .i64 0]) = true := by kernel_rfl
theorem st114 : isStruct Try.prog 114 = some true := by kernel_rfl
theorem sz114 : Try.prog.cellsOf 114 = 2 := by kernel_rfl
theorem if114 : (Try.prog.info? 114).isSome = true := by kernel_rfl
theorem zo114 : zeroOf Try.prog 114 = some (.agg #[.string ByteArray.empty, .int .i64 0]) := by kernel_rfl
theorem zc114 : closedV (.agg #[.string ByteArray.empty, .int .i64 0]) = true := by kernel_rfl
theorem st115 : isStruct Try.prog 115 = some false := by kernel_rfl
theorem sz115 : Try.prog.cellsOf 115 = 1 := by kernel_rfl
theorem if115 : (Try.prog.info? 115).isSome = true := by kernel_rfl
theorem st116 : isStruct Try.prog 116 = some false := by kernel_rfl
theorem sz116 : Try.prog.cellsOf 116 = 1 := by kernel_rfl
theorem if116 : (Try.prog.info? 116).isSome = true := by kernel_rfl
theorem st117 : isStruct Try.prog 117 = some true := by kernel_rfl
theorem sz117 : Try.prog.cellsOf 117 = 2 := by kernel_rfl
theorem if117 : (Try.prog.info? 117).isSome = true := by kernel_rfl
theorem zo117 : zeroOf Try.prog 117 = some (.agg #[.string ByteArray.empty, .int .i64 0]) := by kernel_rfl
theorem zc117 : closedV (.agg #[.string ByteArray.empty, .int .i64 0]) = true := by kernel_rfl
theorem st118 : isStruct Try.prog 118 = some true := by kernel_rfl
theorem sz118 : Try.prog.cellsOf 118 = 2 := by kernel_rfl
theorem if118 : (Try.prog.info? 118).isSome = true := by kernel_rfl
theorem zo118 : zeroOf Try.prog 118 = some (.agg #[.string ByteArray.empty, .int .i64 0]) := by kernel_rfl
theorem zc118 : closedV (.agg #[.string ByteArray.empty, .int .i64 0]) = true := by kernel_rfl
theorem st119 : isStruct Try.prog 119 = some false := by kernel_rfl
theorem sz119 : Try.prog.cellsOf 119 = 1 := by kernel_rfl
theorem if119 : (Try.prog.info? 119).isSome = true := by kernel_rfl
theorem st120 : isStruct Try.prog 120 = some false := by kernel_rfl
theorem sz120 : Try.prog.cellsOf 120 = 1 := by kernel_rfl
theorem if120 : (Try.prog.info? 120).isSome = true := by kernel_rfl
theorem st121 : isStruct Try.prog 121 = some false := by kernel_rfl
theorem sz121 : Try.prog.cellsOf 121 = 1 := by kernel_rfl
theorem if121 : (Try.prog.info? 121).isSome = true := by kernel_rfl
theorem st122 : isStruct Try.prog 122 = some true := by kernel_rfl
theorem sz122 : Try.prog.cellsOf 122 = 4 := by kernel_rfl
theorem if122 : (Try.prog.info? 122).isSome = true := by kernel_rfl
theorem zo122 : zeroOf Try.prog 122 = some (.agg #[.int .i64 0, .int .i64 0, .int .i64 0, .string ByteArray.empty]) := by kernel_rfl
theorem zc122 : closedV (.agg #[.int .i64 0, .int .i64 0, .int .i64 0, .string ByteArray.empty]) = true := by kernel_rfl
theorem st123 : isStruct Try.prog 123 = some true := by kernel_rfl
theorem sz123 : Try.prog.cellsOf 123 = 4 := by kernel_rfl
theorem if123 : (Try.prog.info? 123).isSome = true := by kernel_rfl
theorem zo123 : zeroOf Try.prog 123 = some (.agg #[.int .i64 0, .int .i64 0, .int .i64 0, .string ByteArray.empty]) := by kernel_rfl
theorem zc123 : closedV (.agg #[.int .i64 0, .int .i64 0, .int .i64 0, .string ByteArray.empty]) = true := by kernel_rfl
theorem st124 : isStruct Try.prog 124 = some false := by kernel_rfl
theorem sz124 : Try.prog.cellsOf 124 = 1 := by kernel_rfl
theorem if124 : (Try.prog.info? 124).isSome = true := by kernel_rfl
theorem st125 : isStruct Try.prog 125 = some false := by kernel_rfl
theorem sz125 : Try.prog.cellsOf 125 = 1 := by kernel_rfl
theorem if125 : (Try.prog.info? 125).isSome = true := by kernel_rfl
theorem st126 : isStruct Try.prog 126 = some false := by kernel_rfl
theorem sz126 : Try.prog.cellsOf 126 = 1 := by kernel_rfl
theorem if126 : (Try.prog.info? 126).isSome = true := by kernel_rfl
theorem st127 : isStruct Try.prog 127 = some false := by kernel_rfl
theorem sz127 : Try.prog.cellsOf 127 = 1 := by kernel_rfl
theorem if127 : (Try.prog.info? 127).isSome = true := by kernel_rfl
theorem zo127 : zeroOf Try.prog 127 = some (.slice none 0 0) := by kernel_rfl
theorem zc127 : closedV (.slice none 0 0) = true := by kernel_rfl
theorem st128 : isStruct Try.prog 128 = some false := by kernel_rfl
theorem sz128 : Try.prog.cellsOf 128 = 1 := by kernel_rfl
theorem if128 : (Try.prog.info? 128).isSome = true := by kernel_rfl
theorem st129 : isStruct Try.prog 129 = some false := by kernel_rfl
theorem sz129 : Try.prog.cellsOf 129 = 1 := by kernel_rfl
theorem if129 : (Try.prog.info? 129).isSome = true := by kernel_rfl
theorem st130 : isStruct Try.prog 130 = some false := by kernel_rfl
theorem sz130 : Try.prog.cellsOf 130 = 1 := by kernel_rfl
theorem if130 : (Try.prog.info? 130).isSome = true := by kernel_rfl
theorem st131 : isStruct Try.prog 131 = some false := by kernel_rfl
theorem sz131 : Try.prog.cellsOf 131 = 1 := by kernel_rfl
theorem if131 : (Try.prog.info? 131).isSome = true := by kernel_rfl
theorem st132 : isStruct Try.prog 132 = some false := by kernel_rfl
theorem sz132 : Try.prog.cellsOf 132 = 1 := by kernel_rfl
theorem if132 : (Try.prog.info? 132).isSome = true := by kernel_rfl
theorem st133 : isStruct Try.prog 133 = some false := by kernel_rfl
theorem sz133 : Try.prog.cellsOf 133 = 1 := by kernel_rfl
theorem if133 : (Try.prog.info? 133).isSome = true := by kernel_rfl
theorem st134 : isStruct Try.prog 134 = some false := by kernel_rfl
theorem sz134 : Try.prog.cellsOf 134 = 1 := by kernel_rfl
theorem if134 : (Try.prog.info? 134).isSome = true := by kernel_rfl
theorem st135 : isStruct Try.prog 135 = some false := by kernel_rfl
theorem sz135 : Try.prog.cellsOf 135 = 1 := by kernel_rfl
theorem if135 : (Try.prog.info? 135).isSome = true := by kernel_rfl
theorem st136 : isStruct Try.prog 136 = some false := by kernel_rfl
theorem sz136 : Try.prog.cellsOf 136 = 1 := by kernel_rfl
theorem if136 : (Try.prog.info? 136).isSome = true := by kernel_rfl
theorem st137 : isStruct Try.prog 137 = some false := by kernel_rfl
theorem sz137 : Try.prog.cellsOf 137 = 1 := by kernel_rfl
theorem if137 : (Try.prog.info? 137).isSome = true := by kernel_rfl
theorem st138 : isStruct Try.prog 138 = some true := by kernel_rfl
theorem sz138 : Try.prog.cellsOf 138 = 4 := by kernel_rfl
theorem if138 : (Try.prog.info? 138).isSome = true := by kernel_rfl
theorem zo138 : zeroOf Try.prog 138 = some (.agg #[.int .i64 0, .bool false, .int .i64 0, .int .i64 0]) := by kernel_rfl
theorem zc138 : closedV (.agg #[.int .i64 0, .bool false, .int .i64 0, .int .i64 0]) = true := by kernel_rfl
theorem st139 : isStruct Try.prog 139 = some true := by kernel_rfl
theorem sz139 : Try.prog.cellsOf 139 = 4 := by kernel_rfl
theorem if139 : (Try.prog.info? 139).isSome = true := by kernel_rfl
theorem zo139 : zeroOf Try.prog 139 = some (.agg #[.int .i64 0, .bool false, .int .i64 0, .int .i64 0]) := by kernel_rfl
theorem zc139 : closedV (.agg #[.int .i64 0, .bool false, .int .i64 0, .int .i64 0]) = true := by kernel_rfl
theorem st140 : isStruct Try.prog 140 = some false := by kernel_rfl
theorem sz140 : Try.prog.cellsOf 140 = 1 := by kernel_rfl
theorem if140 : (Try.prog.info? 140).isSome = true := by kernel_rfl
theorem st141 : isStruct Try.prog 141 = some false := by kernel_rfl
theorem sz141 : Try.prog.cellsOf 141 = 1 := by kernel_rfl
theorem if141 : (Try.prog.info? 141).isSome = true := by kernel_rfl
theorem zo141 : zeroOf Try.prog 141 = some (.slice none 0 0) := by kernel_rfl
theorem zc141 : closedV (.slice none 0 0) = true := by kernel_rfl
theorem st142 : isStruct Try.prog 142 = some false := by kernel_rfl
theorem sz142 : Try.prog.cellsOf 142 = 1 := by kernel_rfl
theorem if142 : (Try.prog.info? 142).isSome = true := by kernel_rfl
theorem st143 : isStruct Try.prog 143 = some false := by kernel_rfl
theorem sz143 : Try.prog.cellsOf 143 = 1 := by kernel_rfl
theorem if143 : (Try.prog.info? 143).isSome = true := by kernel_rfl
theorem st144 : isStruct Try.prog 144 = some false := by kernel_rfl
theorem sz144 : Try.prog.cellsOf 144 = 1 := by kernel_rfl
theorem if144 : (Try.prog.info? 144).isSome = true := by kernel_rfl
theorem st145 : isStruct Try.prog 145 = some false := by kernel_rfl
theorem sz145 : Try.prog.cellsOf 145 = 1 := by kernel_rfl
theorem if145 : (Try.prog.info? 145).isSome = true := by kernel_rfl
theorem st146 : isStruct Try.prog 146 = some false := by kernel_rfl
theorem sz146 : Try.prog.cellsOf 146 = 1 := by kernel_rfl
theorem if146 : (Try.prog.info? 146).isSome = true := by kernel_rfl
theorem st147 : isStruct Try.prog 147 = some false := by kernel_rfl
theorem sz147 : Try.prog.cellsOf 147 = 1 := by kernel_rfl
theorem if147 : (Try.prog.info? 147).isSome = true := by kernel_rfl
theorem st148 : isStruct Try.prog 148 = some false := by kernel_rfl
theorem sz148 : Try.prog.cellsOf 148 = 1 := by kernel_rfl
theorem if148 : (Try.prog.info? 148).isSome = true := by kernel_rfl
theorem st149 : isStruct Try.prog 149 = some false := by kernel_rfl
theorem sz149 : Try.prog.cellsOf 149 = 1 := by kernel_rfl
theorem if149 : (Try.prog.info? 149).isSome = true := by kernel_rfl
theorem st150 : isStruct Try.prog 150 = some true := by kernel_rfl
theorem sz150 : Try.prog.cellsOf 150 = 4 := by kernel_rfl
theorem if150 : (Try.prog.info? 150).isSome = true := by kernel_rfl
theorem zo150 : zeroOf Try.prog 150 = some (.agg #[.int .i64 0, .string ByteArray.empty, .int .i64 0, .int .i64 0]) := by kernel_rfl
theorem zc150 : closedV (.agg #[.int .i64 0, .string ByteArray.empty, .int .i64 0, .int .i64 0]) = true := by kernel_rfl
theorem st151 : isStruct Try.prog 151 = some true := by kernel_rfl
theorem sz151 : Try.prog.cellsOf 151 = 4 := by kernel_rfl
theorem if151 : (Try.prog.info? 151).isSome = true := by kernel_rfl
theorem zo151 : zeroOf Try.prog 151 = some (.agg #[.int .i64 0, .string ByteArray.empty, .int .i64 0, .int .i64 0]) := by kernel_rfl
theorem zc151 : closedV (.agg #[.int .i64 0, .string ByteArray.empty, .int .i64 0, .int .i64 0]) = true := by kernel_rfl
theorem st152 : isStruct Try.prog 152 = some false := by kernel_rfl
theorem sz152 : Try.prog.cellsOf 152 = 1 := by kernel_rfl
theorem if152 : (Try.prog.info? 152).isSome = true := by kernel_rfl
theorem st153 : isStruct Try.prog 153 = some true := by kernel_rfl
theorem sz153 : Try.prog.cellsOf 153 = 4 := by kernel_rfl
theorem if153 : (Try.prog.info? 153).isSome = true := by kernel_rfl
theorem zo153 : zeroOf Try.prog 153 = some (.agg #[.string ByteArray.empty, .int .i64 0, .int .i64 0, .int .i64 0]) := by kernel_rfl
theorem zc153 : closedV (.agg #[.string ByteArray.empty, .int .i64 0, .int .i64 0, .int .i64 0]) = true := by kernel_rfl
theorem st154 : isStruct Try.prog 154 = some false := by kernel_rfl
theorem sz154 : Try.prog.cellsOf 154 = 1 := by kernel_rfl
theorem if154 : (Try.prog.info? 154).isSome = true := by kernel_rfl
theorem st155 : isStruct Try.prog 155 = some true := by kernel_rfl
theorem sz155 : Try.prog.cellsOf 155 = 2 := by kernel_rfl
theorem if155 : (Try.prog.info? 155).isSome = true := by kernel_rfl
theorem zo155 : zeroOf Try.prog 155 = some (.agg #[.string ByteArray.empty, .int .i64 0]) := by kernel_rfl
theorem zc155 : closedV (.agg #[.string ByteArray.empty, .int .i64 0]) = true := by kernel_rfl
theorem st156 : isStruct Try.prog 156 = some false := by kernel_rfl
theorem sz156 : Try.prog.cellsOf 156 = 1 := by kernel_rfl
theorem if156 : (Try.prog.info? 156).isSome = true := by kernel_rfl
theorem st157 : isStruct Try.prog 157 = some true := by kernel_rfl
theorem sz157 : Try.prog.cellsOf 157 = 6 := by kernel_rfl
theorem if157 : (Try.prog.info? 157).isSome = true := by kernel_rfl
theorem zo157 : zeroOf Try.prog 157 = some (.agg #[.int .i64 0, .int .i64 0, .string ByteArray.empty, .slice none 0 0, .slice none 0 0, .int .i64 0]) := by kernel_rfl
theorem zc157 : closedV (.agg #[.int .i64 0, .int .i64 0, .string ByteArray.empty, .slice none 0 0, .slice none 0 0, .int .i64 0]) = true := by kernel_rfl
theorem st158 : isStruct Try.prog 158 = some true := by kernel_rfl
theorem sz158 : Try.prog.cellsOf 158 = 6 := by kernel_rfl
theorem if158 : (Try.prog.info? 158).isSome = true := by kernel_rfl
theorem zo158 : zeroOf Try.prog 158 = some (.agg #[.int .i64 0, .int .i64 0, .string ByteArray.empty, .slice none 0 0, .slice none 0 0, .int .i64 0]) := by kernel_rfl
theorem zc158 : closedV (.agg #[.int .i64 0, .int .i64 0, .string ByteArray.empty, .slice none 0 0, .slice none 0 0, .int .i64 0]) = true := by kernel_rfl
theorem st159 : isStruct Try.prog 159 = some true := by kernel_rfl
theorem sz159 : Try.prog.cellsOf 159 = 10 := by kernel_rfl
theorem if159 : (Try.prog.info? 159).isSome = true := by kernel_rfl
theorem zo159 : zeroOf Try.prog 159 = some (.agg #[.int .i64 0, .int .i64 0, .int .i64 0, .string ByteArray.empty, .slice none 0 0, .slice none 0 0, .int .i64 0, .string ByteArray.empty, .int .i64 0, .int .i64 0]) := by kernel_rfl
theorem zc159 : closedV (.agg #[.int .i64 0, .int .i64 0, .int .i64 0, .string ByteArray.empty, .slice none 0 0, .slice none 0 0, .int .i64 0, .string ByteArray.empty, .int .i64 0, .int .i64 0]) = true := by kernel_rfl
theorem st160 : isStruct Try.prog 160 = some true := by kernel_rfl
theorem sz160 : Try.prog.cellsOf 160 = 10 := by kernel_rfl
theorem if160 : (Try.prog.info? 160).isSome = true := by kernel_rfl
theorem zo160 : zeroOf Try.prog 160 = some (.agg #[.int .i64 0, .int .i64 0, .int .i64 0, .string ByteArray.empty, .slice none 0 0, .slice none 0 0, .int .i64 0, .string ByteArray.empty, .int .i64 0, .int .i64 0]) := by kernel_rfl
theorem zc160 : closedV (.agg #[.int .i64 0, .int .i64 0, .int .i64 0, .string ByteArray.empty, .slice none 0 0, .slice none 0 0, .int .i64 0, .string ByteArray.empty, .int .i64 0, .int .i64 0]) = true := by kernel_rfl
theorem st161 : isStruct Try.prog 161 = some false := by kernel_rfl
theorem sz161 : Try.prog.cellsOf 161 = 1 := by kernel_rfl
theorem if161 : (Try.prog.info? 161).isSome = true := by kernel_rfl
theorem st162 : isStruct Try.prog 162 = some true := by kernel_rfl
theorem sz162 : Try.prog.cellsOf 162 = 2 := by kernel_rfl
theorem if162 : (Try.prog.info? 162).isSome = true := by kernel_rfl
theorem zo162 : zeroOf Try.prog 162 = some (.agg #[.string ByteArray.empty, .int .i64 0]) := by kernel_rfl
theorem zc162 : closedV (.agg #[.string ByteArray.empty, .int .i64 0]) = true := by kernel_rfl
theorem st163 : isStruct Try.prog 163 = some false := by kernel_rfl
theorem sz163 : Try.prog.cellsOf 163 = 1 := by kernel_rfl
theorem if163 : (Try.prog.info? 163).isSome = true := by kernel_rfl
theorem st164 : isStruct Try.prog 164 = some true := by kernel_rfl
theorem sz164 : Try.prog.cellsOf 164 = 5 := by kernel_rfl
theorem if164 : (Try.prog.info? 164).isSome = true := by kernel_rfl
theorem zo164 : zeroOf Try.prog 164 = some (.agg #[.int .i64 0, .int .i64 0, .int .i64 0, .slice none 0 0, .int .i64 0]) := by kernel_rfl
theorem zc164 : closedV (.agg #[.int .i64 0, .int .i64 0, .int .i64 0, .slice none 0 0, .int .i64 0]) = true := by kernel_rfl
theorem st165 : isStruct Try.prog 165 = some true := by kernel_rfl
theorem sz165 : Try.prog.cellsOf 165 = 5 := by kernel_rfl
theorem if165 : (Try.prog.info? 165).isSome = true := by kernel_rfl
theorem zo165 : zeroOf Try.prog 165 = some (.agg #[.int .i64 0, .int .i64 0, .int .i64 0, .slice none 0 0, .int .i64 0]) := by kernel_rfl
theorem zc165 : closedV (.agg #[.int .i64 0, .int .i64 0, .int .i64 0, .slice none 0 0, .int .i64 0]) = true := by kernel_rfl
theorem st166 : isStruct Try.prog 166 = some false := by kernel_rfl
theorem sz166 : Try.prog.cellsOf 166 = 1 := by kernel_rfl
theorem if166 : (Try.prog.info? 166).isSome = true := by kernel_rfl
theorem st167 : isStruct Try.prog 167 = some true := by kernel_rfl
theorem sz167 : Try.prog.cellsOf 167 = 4 := by kernel_rfl
theorem if167 : (Try.prog.info? 167).isSome = true := by kernel_rfl
theorem zo167 : zeroOf Try.prog 167 = some (.agg #[.int .i64 0, .int .i64 0, .int .i64 0, .string ByteArray.empty]) := by kernel_rfl
theorem zc167 : closedV (.agg #[.int .i64 0, .int .i64 0, .int .i64 0, .string ByteArray.empty]) = true := by kernel_rfl
theorem st168 : isStruct Try.prog 168 = some false := by kernel_rfl
theorem sz168 : Try.prog.cellsOf 168 = 1 := by kernel_rfl
theorem if168 : (Try.prog.info? 168).isSome = true := by kernel_rfl
theorem st169 : isStruct Try.prog 169 = some false := by kernel_rfl
theorem sz169 : Try.prog.cellsOf 169 = 1 := by kernel_rfl
theorem if169 : (Try.prog.info? 169).isSome = true := by kernel_rfl
theorem st170 : isStruct Try.prog 170 = some false := by kernel_rfl
theorem sz170 : Try.prog.cellsOf 170 = 1 := by kernel_rfl
theorem if170 : (Try.prog.info? 170).isSome = true := by kernel_rfl
theorem st171 : isStruct Try.prog 171 = some false := by kernel_rfl
theorem sz171 : Try.prog.cellsOf 171 = 1 := by kernel_rfl
theorem if171 : (Try.prog.info? 171).isSome = true := by kernel_rfl
theorem st172 : isStruct Try.prog 172 = some false := by kernel_rfl
theorem sz172 : Try.prog.cellsOf 172 = 1 := by kernel_rfl
theorem if172 : (Try.prog.info? 172).isSome = true := by kernel_rfl
theorem st173 : isStruct Try.prog 173 = some false := by kernel_rfl
theorem sz173 : Try.prog.cellsOf 173 = 1 := by kernel_rfl
theorem if173 : (Try.prog.info? 173).isSome = true := by kernel_rfl
theorem st174 : isStruct Try.prog 174 = some false := by kernel_rfl
theorem sz174 : Try.prog.cellsOf 174 = 1 := by kernel_rfl
theorem if174 : (Try.prog.info? 174).isSome = true := by kernel_rfl
theorem st175 : isStruct Try.prog 175 = some false := by kernel_rfl
theorem sz175 : Try.prog.cellsOf 175 = 1 := by kernel_rfl
theorem if175 : (Try.prog.info? 175).isSome = true := by kernel_rfl
theorem st176 : isStruct Try.prog 176 = some false := by kernel_rfl
theorem sz176 : Try.prog.cellsOf 176 = 1 := by kernel_rfl
theorem if176 : (Try.prog.info? 176).isSome = true := by kernel_rfl
theorem st177 : isStruct Try.prog 177 = some false := by kernel_rfl
theorem sz177 : Try.prog.cellsOf 177 = 1 := by kernel_rfl
theorem if177 : (Try.prog.info? 177).isSome = true := by kernel_rfl
theorem st178 : isStruct Try.prog 178 = some false := by kernel_rfl
theorem sz178 : Try.prog.cellsOf 178 = 1 := by kernel_rfl
theorem if178 : (Try.prog.info? 178).isSome = true := by kernel_rfl
theorem st179 : isStruct Try.prog 179 = some false := by kernel_rfl
theorem sz179 : Try.prog.cellsOf 179 = 1 := by kernel_rfl
theorem if179 : (Try.prog.info? 179).isSome = true := by kernel_rfl
theorem st180 : isStruct Try.prog 180 = some false := by kernel_rfl
theorem sz180 : Try.prog.cellsOf 180 = 1 := by kernel_rfl
theorem if180 : (Try.prog.info? 180).isSome = true := by kernel_rfl
theorem st181 : isStruct Try.prog 181 = some false := by kernel_rfl
theorem sz181 : Try.prog.cellsOf 181 = 1 := by kernel_rfl
theorem if181 : (Try.prog.info? 181).isSome = true := by kernel_rfl
theorem st182 : isStruct Try.prog 182 = some true := by kernel_rfl
theorem sz182 : Try.prog.cellsOf 182 = 4 := by kernel_rfl
theorem if182 : (Try.prog.info? 182).isSome = true := by kernel_rfl
theorem zo182 : zeroOf Try.prog 182 = some (.agg #[.int .i64 0, .string ByteArray.empty, .int .i64 0, .int .i64 0]) := by kernel_rfl
theorem zc182 : closedV (.agg #[.int .i64 0, .string ByteArray.empty, .int .i64 0, .int .i64 0]) = true := by kernel_rfl
theorem st183 : isStruct Try.prog 183 = some false := by kernel_rfl
theorem sz183 : Try.prog.cellsOf 183 = 1 := by kernel_rfl
theorem if183 : (Try.prog.info? 183).isSome = true := by kernel_rfl
theorem st184 : isStruct Try.prog 184 = some false := by kernel_rfl
theorem sz184 : Try.prog.cellsOf 184 = 1 := by kernel_rfl
theorem if184 : (Try.prog.info? 184).isSome = true := by kernel_rfl
theorem st185 : isStruct Try.prog 185 = some false := by kernel_rfl
theorem sz185 : Try.prog.cellsOf 185 = 1 := by kernel_rfl
theorem if185 : (Try.prog.info? 185).isSome = true := by kernel_rfl
theorem st186 : isStruct Try.prog 186 = some false := by kernel_rfl
theorem sz186 : Try.prog.cellsOf 186 = 1 := by kernel_rfl
theorem if186 : (Try.prog.info? 186).isSome = true := by kernel_rfl
theorem st187 : isStruct Try.prog 187 = some false := by kernel_rfl
theorem sz187 : Try.prog.cellsOf 187 = 1 := by kernel_rfl
theorem if187 : (Try.prog.info? 187).isSome = true := by kernel_rfl
theorem st188 : isStruct Try.prog 188 = some false := by kernel_rfl
theorem sz188 : Try.prog.cellsOf 188 = 1 := by kernel_rfl
theorem if188 : (Try.prog.info? 188).isSome = true := by kernel_rfl
theorem zo188 : zeroOf Try.prog 188 = some (.slice none 0 0) := by kernel_rfl
theorem zc188 : closedV (.slice none 0 0) = true := by kernel_rfl
theorem st189 : isStruct Try.prog 189 = some false := by kernel_rfl
theorem sz189 : Try.prog.cellsOf 189 = 1 := by kernel_rfl
theorem if189 : (Try.prog.info? 189).isSome = true := by kernel_rfl
theorem st190 : isStruct Try.prog 190 = some false := by kernel_rfl
theorem sz190 : Try.prog.cellsOf 190 = 1 := by kernel_rfl
theorem if190 : (Try.prog.info? 190).isSome = true := by kernel_rfl
theorem st191 : isStruct Try.prog 191 = some false := by kernel_rfl
theorem sz191 : Try.prog.cellsOf 191 = 1 := by kernel_rfl
theorem if191 : (Try.prog.info? 191).isSome = true := by kernel_rfl
theorem st192 : isStruct Try.prog 192 = some false := by kernel_rfl
theorem sz192 : Try.prog.cellsOf 192 = 1 := by kernel_rfl
theorem if192 : (Try.prog.info? 192).isSome = true := by kernel_rfl
theorem st193 : isStruct Try.prog 193 = some false := by kernel_rfl
theorem sz193 : Try.prog.cellsOf 193 = 1 := by kernel_rfl
theorem if193 : (Try.prog.info? 193).isSome = true := by kernel_rfl
theorem st194 : isStruct Try.prog 194 = some false := by kernel_rfl
theorem sz194 : Try.prog.cellsOf 194 = 1 := by kernel_rfl
theorem if194 : (Try.prog.info? 194).isSome = true := by kernel_rfl
theorem st195 : isStruct Try.prog 195 = some false := by kernel_rfl
theorem sz195 : Try.prog.cellsOf 195 = 1 := by kernel_rfl
theorem if195 : (Try.prog.info? 195).isSome = true := by kernel_rfl
theorem st196 : isStruct Try.prog 196 = some false := by kernel_rfl
theorem sz196 : Try.prog.cellsOf 196 = 1 := by kernel_rfl
theorem if196 : (Try.prog.info? 196).isSome = true := by kernel_rfl
theorem st197 : isStruct Try.prog 197 = some false := by kernel_rfl
theorem sz197 : Try.prog.cellsOf 197 = 1 := by kernel_rfl
theorem if197 : (Try.prog.info? 197).isSome = true := by kernel_rfl
theorem st198 : isStruct Try.prog 198 = some false := by kernel_rfl
theorem sz198 : Try.prog.cellsOf 198 = 1 := by kernel_rfl
theorem if198 : (Try.prog.info? 198).isSome = true := by kernel_rfl
theorem zo198 : zeroOf Try.prog 198 = some (.slice none 0 0) := by kernel_rfl
theorem zc198 : closedV (.slice none 0 0) = true := by kernel_rfl
theorem st199 : isStruct Try.prog 199 = some false := by kernel_rfl
theorem sz199 : Try.prog.cellsOf 199 = 1 := by kernel_rfl
theorem if199 : (Try.prog.info? 199).isSome = true := by kernel_rfl
theorem st200 : isStruct Try.prog 200 = some false := by kernel_rfl
theorem sz200 : Try.prog.cellsOf 200 = 1 := by kernel_rfl
theorem if200 : (Try.prog.info? 200).isSome = true := by kernel_rfl
theorem st201 : isStruct Try.prog 201 = some false := by kernel_rfl
theorem sz201 : Try.prog.cellsOf 201 = 1 := by kernel_rfl
theorem if201 : (Try.prog.info? 201).isSome = true := by kernel_rfl
theorem st202 : isStruct Try.prog 202 = some false := by kernel_rfl
theorem sz202 : Try.prog.cellsOf 202 = 1 := by kernel_rfl
theorem if202 : (Try.prog.info? 202).isSome = true := by kernel_rfl
theorem st203 : isStruct Try.prog 203 = some false := by kernel_rfl
theorem sz203 : Try.prog.cellsOf 203 = 1 := by kernel_rfl
theorem if203 : (Try.prog.info? 203).isSome = true := by kernel_rfl
theorem st204 : isStruct Try.prog 204 = some false := by kernel_rfl
theorem sz204 : Try.prog.cellsOf 204 = 1 := by kernel_rfl
theorem if204 : (Try.prog.info? 204).isSome = true := by kernel_rfl
theorem st210 : isStruct Try.prog 210 = some false := by kernel_rfl
theorem sz210 : Try.prog.cellsOf 210 = 1 := by kernel_rfl
theorem if210 : (Try.prog.info? 210).isSome = true := by kernel_rfl
theorem st211 : isStruct Try.prog 211 = some false := by kernel_rfl
theorem sz211 : Try.prog.cellsOf 211 = 1 := by kernel_rfl
theorem if211 : (Try.prog.info? 211).isSome = true := by kernel_rfl
theorem zo211 : zeroOf Try.prog 211 = some (.int .u32 0) := by kernel_rfl
theorem zc211 : closedV (.int .u32 0) = true := by kernel_rfl
theorem st214 : isStruct Try.prog 214 = some false := by kernel_rfl
theorem sz214 : Try.prog.cellsOf 214 = 1 := by kernel_rfl
theorem if214 : (Try.prog.info? 214).isSome = true := by kernel_rfl
theorem st215 : isStruct Try.prog 215 = some false := by kernel_rfl
theorem sz215 : Try.prog.cellsOf 215 = 1 := by kernel_rfl
theorem if215 : (Try.prog.info? 215).isSome = true := by kernel_rfl
theorem st220 : isStruct Try.prog 220 = some false := by kernel_rfl
theorem sz220 : Try.prog.cellsOf 220 = 1 := by kernel_rfl
theorem if220 : (Try.prog.info? 220).isSome = true := by kernel_rfl
theorem fa7_0 (k o : Nat) : afieldAddr Try.prog 7 (.pointer (some ⟨k, o, none⟩)) 0 = some (.pointer (some ⟨k, o + 0, none⟩)) := by simp [afieldAddr, Try.underlying7, if2, sz2]
theorem fa7_1 (k o : Nat) : afieldAddr Try.prog 7 (.pointer (some ⟨k, o, none⟩)) 1 = some (.pointer (some ⟨k, o + 1, none⟩)) := by simp [afieldAddr, Try.underlying7, if3, sz3]
theorem fa7_2 (k o : Nat) : afieldAddr Try.prog 7 (.pointer (some ⟨k, o, none⟩)) 2 = some (.pointer (some ⟨k, o + 2, none⟩)) := by simp [afieldAddr, Try.underlying7, if4, sz4]
theorem fa13_0 (k o : Nat) : afieldAddr Try.prog 13 (.pointer (some ⟨k, o, none⟩)) 0 = some (.pointer (some ⟨k, o + 0, none⟩)) := by simp [afieldAddr, Try.underlying13, if9, sz9]
theorem fa13_1 (k o : Nat) : afieldAddr Try.prog 13 (.pointer (some ⟨k, o, none⟩)) 1 = some (.pointer (some ⟨k, o + 1, none⟩)) := by simp [afieldAddr, Try.underlying13, if12, sz12]
theorem fa22_0 (k o : Nat) : afieldAddr Try.prog 22 (.pointer (some ⟨k, o, none⟩)) 0 = some (.pointer (some ⟨k, o + 0, none⟩)) := by simp [afieldAddr, Try.underlying22, if3, sz3]
theorem fa22_1 (k o : Nat) : afieldAddr Try.prog 22 (.pointer (some ⟨k, o, none⟩)) 1 = some (.pointer (some ⟨k, o + 1, none⟩)) := by simp [afieldAddr, Try.underlying22, if3, sz3]
theorem fa22_2 (k o : Nat) : afieldAddr Try.prog 22 (.pointer (some ⟨k, o, none⟩)) 2 = some (.pointer (some ⟨k, o + 2, none⟩)) := by simp [afieldAddr, Try.underlying22, if9, sz9]
theorem fa23_0 (k o : Nat) : afieldAddr Try.prog 23 (.pointer (some ⟨k, o, none⟩)) 0 = some (.pointer (some ⟨k, o + 0, none⟩)) := by simp [afieldAddr, Try.underlying23, if3, sz3]
theorem fa23_1 (k o : Nat) : afieldAddr Try.prog 23 (.pointer (some ⟨k, o, none⟩)) 1 = some (.pointer (some ⟨k, o + 1, none⟩)) := by simp [afieldAddr, Try.underlying23, if3, sz3]
theorem fa23_2 (k o : Nat) : afieldAddr Try.prog 23 (.pointer (some ⟨k, o, none⟩)) 2 = some (.pointer (some ⟨k, o + 2, none⟩)) := by simp [afieldAddr, Try.underlying23, if9, sz9]
theorem fa25_0 (k o : Nat) : afieldAddr Try.prog 25 (.pointer (some ⟨k, o, none⟩)) 0 = some (.pointer (some ⟨k, o + 0, none⟩)) := by simp [afieldAddr, Try.underlying25, if23, sz23]
theorem fa25_1 (k o : Nat) : afieldAddr Try.prog 25 (.pointer (some ⟨k, o, none⟩)) 1 = some (.pointer (some ⟨k, o + 3, none⟩)) := by simp [afieldAddr, Try.underlying25, if9, sz9]
theorem fa25_2 (k o : Nat) : afieldAddr Try.prog 25 (.pointer (some ⟨k, o, none⟩)) 2 = some (.pointer (some ⟨k, o + 4, none⟩)) := by simp [afieldAddr, Try.underlying25, if24, sz24]
theorem fa25_3 (k o : Nat) : afieldAddr Try.prog 25 (.pointer (some ⟨k, o, none⟩)) 3 = some (.pointer (some ⟨k, o + 5, none⟩)) := by simp [afieldAddr, Try.underlying25, if3, sz3]
theorem fa26_0 (k o : Nat) : afieldAddr Try.prog 26 (.pointer (some ⟨k, o, none⟩)) 0 = some (.pointer (some ⟨k, o + 0, none⟩)) := by simp [afieldAddr, Try.underlying26, if23, sz23]
theorem fa26_1 (k o : Nat) : afieldAddr Try.prog 26 (.pointer (some ⟨k, o, none⟩)) 1 = some (.pointer (some ⟨k, o + 3, none⟩)) := by simp [afieldAddr, Try.underlying26, if9, sz9]
theorem fa26_2 (k o : Nat) : afieldAddr Try.prog 26 (.pointer (some ⟨k, o, none⟩)) 2 = some (.pointer (some ⟨k, o + 4, none⟩)) := by simp [afieldAddr, Try.underlying26, if24, sz24]
theorem fa26_3 (k o : Nat) : afieldAddr Try.prog 26 (.pointer (some ⟨k, o, none⟩)) 3 = some (.pointer (some ⟨k, o + 5, none⟩)) := by simp [afieldAddr, Try.underlying26, if3, sz3]
theorem fa29_0 (k o : Nat) : afieldAddr Try.prog 29 (.pointer (some ⟨k, o, none⟩)) 0 = some (.pointer (some ⟨k, o + 0, none⟩)) := by simp [afieldAddr, Try.underlying29, if3, sz3]
theorem fa29_1 (k o : Nat) : afieldAddr Try.prog 29 (.pointer (some ⟨k, o, none⟩)) 1 = some (.pointer (some ⟨k, o + 1, none⟩)) := by simp [afieldAddr, Try.underlying29, if3, sz3]
theorem fa29_2 (k o : Nat) : afieldAddr Try.prog 29 (.pointer (some ⟨k, o, none⟩)) 2 = some (.pointer (some ⟨k, o + 2, none⟩)) := by simp [afieldAddr, Try.underlying29, if9, sz9]
theorem fa31_0 (k o : Nat) : afieldAddr Try.prog 31 (.pointer (some ⟨k, o, none⟩)) 0 = some (.pointer (some ⟨k, o + 0, none⟩)) := by simp [afieldAddr, Try.underlying31, if29, sz29]
theorem fa31_1 (k o : Nat) : afieldAddr Try.prog 31 (.pointer (some ⟨k, o, none⟩)) 1 = some (.pointer (some ⟨k, o + 3, none⟩)) := by simp [afieldAddr, Try.underlying31, if9, sz9]
theorem fa31_2 (k o : Nat) : afieldAddr Try.prog 31 (.pointer (some ⟨k, o, none⟩)) 2 = some (.pointer (some ⟨k, o + 4, none⟩)) := by simp [afieldAddr, Try.underlying31, if30, sz30]
theorem fa31_3 (k o : Nat) : afieldAddr Try.prog 31 (.pointer (some ⟨k, o, none⟩)) 3 = some (.pointer (some ⟨k, o + 5, none⟩)) := by simp [afieldAddr, Try.underlying31, if3, sz3]
theorem fa32_0 (k o : Nat) : afieldAddr Try.prog 32 (.pointer (some ⟨k, o, none⟩)) 0 = some (.pointer (some ⟨k, o + 0, none⟩)) := by simp [afieldAddr, Try.underlying32, if29, sz29]
theorem fa32_1 (k o : Nat) : afieldAddr Try.prog 32 (.pointer (some ⟨k, o, none⟩)) 1 = some (.pointer (some ⟨k, o + 3, none⟩)) := by simp [afieldAddr, Try.underlying32, if9, sz9]
theorem fa32_2 (k o : Nat) : afieldAddr Try.prog 32 (.pointer (some ⟨k, o, none⟩)) 2 = some (.pointer (some ⟨k, o + 4, none⟩)) := by simp [afieldAddr, Try.underlying32, if30, sz30]
theorem fa32_3 (k o : Nat) : afieldAddr Try.prog 32 (.pointer (some ⟨k, o, none⟩)) 3 = some (.pointer (some ⟨k, o + 5, none⟩)) := by simp [afieldAddr, Try.underlying32, if3, sz3]
theorem fa42_0 (k o : Nat) : afieldAddr Try.prog 42 (.pointer (some ⟨k, o, none⟩)) 0 = some (.pointer (some ⟨k, o + 0, none⟩)) := by simp [afieldAddr, Try.underlying42, if36, sz36]
theorem fa42_1 (k o : Nat) : afieldAddr Try.prog 42 (.pointer (some ⟨k, o, none⟩)) 1 = some (.pointer (some ⟨k, o + 1, none⟩)) := by simp [afieldAddr, Try.underlying42, if37, sz37]
theorem fa42_2 (k o : Nat) : afieldAddr Try.prog 42 (.pointer (some ⟨k, o, none⟩)) 2 = some (.pointer (some ⟨k, o + 2, none⟩)) := by simp [afieldAddr, Try.underlying42, if26, sz26]
theorem fa42_3 (k o : Nat) : afieldAddr Try.prog 42 (.pointer (some ⟨k, o, none⟩)) 3 = some (.pointer (some ⟨k, o + 8, none⟩)) := by simp [afieldAddr, Try.underlying42, if38, sz38]
theorem fa42_4 (k o : Nat) : afieldAddr Try.prog 42 (.pointer (some ⟨k, o, none⟩)) 4 = some (.pointer (some ⟨k, o + 9, none⟩)) := by simp [afieldAddr, Try.underlying42, if39, sz39]
theorem fa42_5 (k o : Nat) : afieldAddr Try.prog 42 (.pointer (some ⟨k, o, none⟩)) 5 = some (.pointer (some ⟨k, o + 10, none⟩)) := by simp [afieldAddr, Try.underlying42, if40, sz40]
theorem fa42_6 (k o : Nat) : afieldAddr Try.prog 42 (.pointer (some ⟨k, o, none⟩)) 6 = some (.pointer (some ⟨k, o + 11, none⟩)) := by simp [afieldAddr, Try.underlying42, if41, sz41]
theorem fa42_7 (k o : Nat) : afieldAddr Try.prog 42 (.pointer (some ⟨k, o, none⟩)) 7 = some (.pointer (some ⟨k, o + 12, none⟩)) := by simp [afieldAddr, Try.underlying42, if3, sz3]
theorem fa43_0 (k o : Nat) : afieldAddr Try.prog 43 (.pointer (some ⟨k, o, none⟩)) 0 = some (.pointer (some ⟨k, o + 0, none⟩)) := by simp [afieldAddr, Try.underlying43, if36, sz36]
theorem fa43_1 (k o : Nat) : afieldAddr Try.prog 43 (.pointer (some ⟨k, o, none⟩)) 1 = some (.pointer (some ⟨k, o + 1, none⟩)) := by simp [afieldAddr, Try.underlying43, if37, sz37]
theorem fa43_2 (k o : Nat) : afieldAddr Try.prog 43 (.pointer (some ⟨k, o, none⟩)) 2 = some (.pointer (some ⟨k, o + 2, none⟩)) := by simp [afieldAddr, Try.underlying43, if26, sz26]
theorem fa43_3 (k o : Nat) : afieldAddr Try.prog 43 (.pointer (some ⟨k, o, none⟩)) 3 = some (.pointer (some ⟨k, o + 8, none⟩)) := by simp [afieldAddr, Try.underlying43, if38, sz38]
theorem fa43_4 (k o : Nat) : afieldAddr Try.prog 43 (.pointer (some ⟨k, o, none⟩)) 4 = some (.pointer (some ⟨k, o + 9, none⟩)) := by simp [afieldAddr, Try.underlying43, if39, sz39]
theorem fa43_5 (k o : Nat) : afieldAddr Try.prog 43 (.pointer (some ⟨k, o, none⟩)) 5 = some (.pointer (some ⟨k, o + 10, none⟩)) := by simp [afieldAddr, Try.underlying43, if40, sz40]
theorem fa43_6 (k o : Nat) : afieldAddr Try.prog 43 (.pointer (some ⟨k, o, none⟩)) 6 = some (.pointer (some ⟨k, o + 11, none⟩)) := by simp [afieldAddr, Try.underlying43, if41, sz41]
theorem fa43_7 (k o : Nat) : afieldAddr Try.prog 43 (.pointer (some ⟨k, o, none⟩)) 7 = some (.pointer (some ⟨k, o + 12, none⟩)) := by simp [afieldAddr, Try.underlying43, if3, sz3]
theorem fa52_0 (k o : Nat) : afieldAddr Try.prog 52 (.pointer (some ⟨k, o, none⟩)) 0 = some (.pointer (some ⟨k, o + 0, none⟩)) := by simp [afieldAddr, Try.underlying52, if46, sz46]
theorem fa52_1 (k o : Nat) : afieldAddr Try.prog 52 (.pointer (some ⟨k, o, none⟩)) 1 = some (.pointer (some ⟨k, o + 1, none⟩)) := by simp [afieldAddr, Try.underlying52, if47, sz47]
theorem fa52_2 (k o : Nat) : afieldAddr Try.prog 52 (.pointer (some ⟨k, o, none⟩)) 2 = some (.pointer (some ⟨k, o + 2, none⟩)) := by simp [afieldAddr, Try.underlying52, if32, sz32]
theorem fa52_3 (k o : Nat) : afieldAddr Try.prog 52 (.pointer (some ⟨k, o, none⟩)) 3 = some (.pointer (some ⟨k, o + 8, none⟩)) := by simp [afieldAddr, Try.underlying52, if48, sz48]
theorem fa52_4 (k o : Nat) : afieldAddr Try.prog 52 (.pointer (some ⟨k, o, none⟩)) 4 = some (.pointer (some ⟨k, o + 9, none⟩)) := by simp [afieldAddr, Try.underlying52, if49, sz49]
theorem fa52_5 (k o : Nat) : afieldAddr Try.prog 52 (.pointer (some ⟨k, o, none⟩)) 5 = some (.pointer (some ⟨k, o + 10, none⟩)) := by simp [afieldAddr, Try.underlying52, if50, sz50]
theorem fa52_6 (k o : Nat) : afieldAddr Try.prog 52 (.pointer (some ⟨k, o, none⟩)) 6 = some (.pointer (some ⟨k, o + 11, none⟩)) := by simp [afieldAddr, Try.underlying52, if51, sz51]
theorem fa52_7 (k o : Nat) : afieldAddr Try.prog 52 (.pointer (some ⟨k, o, none⟩)) 7 = some (.pointer (some ⟨k, o + 12, none⟩)) := by simp [afieldAddr, Try.underlying52, if3, sz3]
theorem fa53_0 (k o : Nat) : afieldAddr Try.prog 53 (.pointer (some ⟨k, o, none⟩)) 0 = some (.pointer (some ⟨k, o + 0, none⟩)) := by simp [afieldAddr, Try.underlying53, if46, sz46]
theorem fa53_1 (k o : Nat) : afieldAddr Try.prog 53 (.pointer (some ⟨k, o, none⟩)) 1 = some (.pointer (some ⟨k, o + 1, none⟩)) := by simp [afieldAddr, Try.underlying53, if47, sz47]
theorem fa53_2 (k o : Nat) : afieldAddr Try.prog 53 (.pointer (some ⟨k, o, none⟩)) 2 = some (.pointer (some ⟨k, o + 2, none⟩)) := by simp [afieldAddr, Try.underlying53, if32, sz32]
theorem fa53_3 (k o : Nat) : afieldAddr Try.prog 53 (.pointer (some ⟨k, o, none⟩)) 3 = some (.pointer (some ⟨k, o + 8, none⟩)) := by simp [afieldAddr, Try.underlying53, if48, sz48]
theorem fa53_4 (k o : Nat) : afieldAddr Try.prog 53 (.pointer (some ⟨k, o, none⟩)) 4 = some (.pointer (some ⟨k, o + 9, none⟩)) := by simp [afieldAddr, Try.underlying53, if49, sz49]
theorem fa53_5 (k o : Nat) : afieldAddr Try.prog 53 (.pointer (some ⟨k, o, none⟩)) 5 = some (.pointer (some ⟨k, o + 10, none⟩)) := by simp [afieldAddr, Try.underlying53, if50, sz50]
theorem fa53_6 (k o : Nat) : afieldAddr Try.prog 53 (.pointer (some ⟨k, o, none⟩)) 6 = some (.pointer (some ⟨k, o + 11, none⟩)) := by simp [afieldAddr, Try.underlying53, if51, sz51]
theorem fa53_7 (k o : Nat) : afieldAddr Try.prog 53 (.pointer (some ⟨k, o, none⟩)) 7 = some (.pointer (some ⟨k, o + 12, none⟩)) := by simp [afieldAddr, Try.underlying53, if3, sz3]
theorem fa63_0 (k o : Nat) : afieldAddr Try.prog 63 (.pointer (some ⟨k, o, none⟩)) 0 = some (.pointer (some ⟨k, o + 0, none⟩)) := by simp [afieldAddr, Try.underlying63, if3, sz3]
theorem fa63_1 (k o : Nat) : afieldAddr Try.prog 63 (.pointer (some ⟨k, o, none⟩)) 1 = some (.pointer (some ⟨k, o + 1, none⟩)) := by simp [afieldAddr, Try.underlying63, if62, sz62]
theorem fa64_0 (k o : Nat) : afieldAddr Try.prog 64 (.pointer (some ⟨k, o, none⟩)) 0 = some (.pointer (some ⟨k, o + 0, none⟩)) := by simp [afieldAddr, Try.underlying64, if3, sz3]
theorem fa64_1 (k o : Nat) : afieldAddr Try.prog 64 (.pointer (some ⟨k, o, none⟩)) 1 = some (.pointer (some ⟨k, o + 1, none⟩)) := by simp [afieldAddr, Try.underlying64, if62, sz62]
theorem fa69_0 (k o : Nat) : afieldAddr Try.prog 69 (.pointer (some ⟨k, o, none⟩)) 0 = some (.pointer (some ⟨k, o + 0, none⟩)) := by simp [afieldAddr, Try.underlying69, if3, sz3]
theorem fa69_1 (k o : Nat) : afieldAddr Try.prog 69 (.pointer (some ⟨k, o, none⟩)) 1 = some (.pointer (some ⟨k, o + 1, none⟩)) := by simp [afieldAddr, Try.underlying69, if68, sz68]
theorem fa70_0 (k o : Nat) : afieldAddr Try.prog 70 (.pointer (some ⟨k, o, none⟩)) 0 = some (.pointer (some ⟨k, o + 0, none⟩)) := by simp [afieldAddr, Try.underlying70, if3, sz3]
theorem fa70_1 (k o : Nat) : afieldAddr Try.prog 70 (.pointer (some ⟨k, o, none⟩)) 1 = some (.pointer (some ⟨k, o + 1, none⟩)) := by simp [afieldAddr, Try.underlying70, if68, sz68]
theorem fa97_0 (k o : Nat) : afieldAddr Try.prog 97 (.pointer (some ⟨k, o, none⟩)) 0 = some (.pointer (some ⟨k, o + 0, none⟩)) := by simp [afieldAddr, Try.underlying97, if29, sz29]
theorem fa97_1 (k o : Nat) : afieldAddr Try.prog 97 (.pointer (some ⟨k, o, none⟩)) 1 = some (.pointer (some ⟨k, o + 3, none⟩)) := by simp [afieldAddr, Try.underlying97, if30, sz30]
theorem fa97_2 (k o : Nat) : afieldAddr Try.prog 97 (.pointer (some ⟨k, o, none⟩)) 2 = some (.pointer (some ⟨k, o + 4, none⟩)) := by simp [afieldAddr, Try.underlying97, if56, sz56]
theorem fa97_3 (k o : Nat) : afieldAddr Try.prog 97 (.pointer (some ⟨k, o, none⟩)) 3 = some (.pointer (some ⟨k, o + 5, none⟩)) := by simp [afieldAddr, Try.underlying97, if3, sz3]
theorem fa98_0 (k o : Nat) : afieldAddr Try.prog 98 (.pointer (some ⟨k, o, none⟩)) 0 = some (.pointer (some ⟨k, o + 0, none⟩)) := by simp [afieldAddr, Try.underlying98, if29, sz29]
theorem fa98_1 (k o : Nat) : afieldAddr Try.prog 98 (.pointer (some ⟨k, o, none⟩)) 1 = some (.pointer (some ⟨k, o + 3, none⟩)) := by simp [afieldAddr, Try.underlying98, if30, sz30]
theorem fa98_2 (k o : Nat) : afieldAddr Try.prog 98 (.pointer (some ⟨k, o, none⟩)) 2 = some (.pointer (some ⟨k, o + 4, none⟩)) := by simp [afieldAddr, Try.underlying98, if56, sz56]
theorem fa98_3 (k o : Nat) : afieldAddr Try.prog 98 (.pointer (some ⟨k, o, none⟩)) 3 = some (.pointer (some ⟨k, o + 5, none⟩)) := by simp [afieldAddr, Try.underlying98, if3, sz3]
theorem fa99_0 (k o : Nat) : afieldAddr Try.prog 99 (.pointer (some ⟨k, o, none⟩)) 0 = some (.pointer (some ⟨k, o + 0, none⟩)) := by simp [afieldAddr, Try.underlying99, if3, sz3]
theorem fa99_1 (k o : Nat) : afieldAddr Try.prog 99 (.pointer (some ⟨k, o, none⟩)) 1 = some (.pointer (some ⟨k, o + 1, none⟩)) := by simp [afieldAddr, Try.underlying99, if98, sz98]
theorem fa99_2 (k o : Nat) : afieldAddr Try.prog 99 (.pointer (some ⟨k, o, none⟩)) 2 = some (.pointer (some ⟨k, o + 7, none⟩)) := by simp [afieldAddr, Try.underlying99, if9, sz9]
theorem fa99_3 (k o : Nat) : afieldAddr Try.prog 99 (.pointer (some ⟨k, o, none⟩)) 3 = some (.pointer (some ⟨k, o + 8, none⟩)) := by simp [afieldAddr, Try.underlying99, if3, sz3]
theorem fa99_4 (k o : Nat) : afieldAddr Try.prog 99 (.pointer (some ⟨k, o, none⟩)) 4 = some (.pointer (some ⟨k, o + 9, none⟩)) := by simp [afieldAddr, Try.underlying99, if3, sz3]
theorem fa100_0 (k o : Nat) : afieldAddr Try.prog 100 (.pointer (some ⟨k, o, none⟩)) 0 = some (.pointer (some ⟨k, o + 0, none⟩)) := by simp [afieldAddr, Try.underlying100, if3, sz3]
theorem fa100_1 (k o : Nat) : afieldAddr Try.prog 100 (.pointer (some ⟨k, o, none⟩)) 1 = some (.pointer (some ⟨k, o + 1, none⟩)) := by simp [afieldAddr, Try.underlying100, if98, sz98]
theorem fa100_2 (k o : Nat) : afieldAddr Try.prog 100 (.pointer (some ⟨k, o, none⟩)) 2 = some (.pointer (some ⟨k, o + 7, none⟩)) := by simp [afieldAddr, Try.underlying100, if9, sz9]
theorem fa100_3 (k o : Nat) : afieldAddr Try.prog 100 (.pointer (some ⟨k, o, none⟩)) 3 = some (.pointer (some ⟨k, o + 8, none⟩)) := by simp [afieldAddr, Try.underlying100, if3, sz3]
theorem fa100_4 (k o : Nat) : afieldAddr Try.prog 100 (.pointer (some ⟨k, o, none⟩)) 4 = some (.pointer (some ⟨k, o + 9, none⟩)) := by simp [afieldAddr, Try.underlying100, if3, sz3]
theorem fa101_0 (k o : Nat) : afieldAddr Try.prog 101 (.pointer (some ⟨k, o, none⟩)) 0 = some (.pointer (some ⟨k, o + 0, none⟩)) := by simp [afieldAddr, Try.underlying101, if3, sz3]
theorem fa101_1 (k o : Nat) : afieldAddr Try.prog 101 (.pointer (some ⟨k, o, none⟩)) 1 = some (.pointer (some ⟨k, o + 1, none⟩)) := by simp [afieldAddr, Try.underlying101, if3, sz3]
theorem fa101_2 (k o : Nat) : afieldAddr Try.prog 101 (.pointer (some ⟨k, o, none⟩)) 2 = some (.pointer (some ⟨k, o + 2, none⟩)) := by simp [afieldAddr, Try.underlying101, if70, sz70]
theorem fa101_3 (k o : Nat) : afieldAddr Try.prog 101 (.pointer (some ⟨k, o, none⟩)) 3 = some (.pointer (some ⟨k, o + 4, none⟩)) := by simp [afieldAddr, Try.underlying101, if3, sz3]
theorem fa102_0 (k o : Nat) : afieldAddr Try.prog 102 (.pointer (some ⟨k, o, none⟩)) 0 = some (.pointer (some ⟨k, o + 0, none⟩)) := by simp [afieldAddr, Try.underlying102, if3, sz3]
theorem fa102_1 (k o : Nat) : afieldAddr Try.prog 102 (.pointer (some ⟨k, o, none⟩)) 1 = some (.pointer (some ⟨k, o + 1, none⟩)) := by simp [afieldAddr, Try.underlying102, if3, sz3]
theorem fa102_2 (k o : Nat) : afieldAddr Try.prog 102 (.pointer (some ⟨k, o, none⟩)) 2 = some (.pointer (some ⟨k, o + 2, none⟩)) := by simp [afieldAddr, Try.underlying102, if70, sz70]
theorem fa102_3 (k o : Nat) : afieldAddr Try.prog 102 (.pointer (some ⟨k, o, none⟩)) 3 = some (.pointer (some ⟨k, o + 4, none⟩)) := by simp [afieldAddr, Try.underlying102, if3, sz3]
theorem fa110_0 (k o : Nat) : afieldAddr Try.prog 110 (.pointer (some ⟨k, o, none⟩)) 0 = some (.pointer (some ⟨k, o + 0, none⟩)) := by simp [afieldAddr, Try.underlying110, if9, sz9]
theorem fa110_1 (k o : Nat) : afieldAddr Try.prog 110 (.pointer (some ⟨k, o, none⟩)) 1 = some (.pointer (some ⟨k, o + 1, none⟩)) := by simp [afieldAddr, Try.underlying110, if3, sz3]
theorem fa110_2 (k o : Nat) : afieldAddr Try.prog 110 (.pointer (some ⟨k, o, none⟩)) 2 = some (.pointer (some ⟨k, o + 2, none⟩)) := by simp [afieldAddr, Try.underlying110, if3, sz3]
theorem fa110_3 (k o : Nat) : afieldAddr Try.prog 110 (.pointer (some ⟨k, o, none⟩)) 3 = some (.pointer (some ⟨k, o + 3, none⟩)) := by simp [afieldAddr, Try.underlying110, if3, sz3]
theorem fa111_0 (k o : Nat) : afieldAddr Try.prog 111 (.pointer (some ⟨k, o, none⟩)) 0 = some (.pointer (some ⟨k, o + 0, none⟩)) := by simp [afieldAddr, Try.underlying111, if9, sz9]
theorem fa111_1 (k o : Nat) : afieldAddr Try.prog 111 (.pointer (some ⟨k, o, none⟩)) 1 = some (.pointer (some ⟨k, o + 1, none⟩)) := by simp [afieldAddr, Try.underlying111, if3, sz3]
theorem fa111_2 (k o : Nat) : afieldAddr Try.prog 111 (.pointer (some ⟨k, o, none⟩)) 2 = some (.pointer (some ⟨k, o + 2, none⟩)) := by simp [afieldAddr, Try.underlying111, if3, sz3]
theorem fa111_3 (k o : Nat) : afieldAddr Try.prog 111 (.pointer (some ⟨k, o, none⟩)) 3 = some (.pointer (some ⟨k, o + 3, none⟩)) := by simp [afieldAddr, Try.underlying111, if3, sz3]
theorem fa113_0 (k o : Nat) : afieldAddr Try.prog 113 (.pointer (some ⟨k, o, none⟩)) 0 = some (.pointer (some ⟨k, o + 0, none⟩)) := by simp [afieldAddr, Try.underlying113, if9, sz9]
theorem fa113_1 (k o : Nat) : afieldAddr Try.prog 113 (.pointer (some ⟨k, o, none⟩)) 1 = some (.pointer (some ⟨k, o + 1, none⟩)) := by simp [afieldAddr, Try.underlying113, if3, sz3]
theorem fa114_0 (k o : Nat) : afieldAddr Try.prog 114 (.pointer (some ⟨k, o, none⟩)) 0 = some (.pointer (some ⟨k, o + 0, none⟩)) := by simp [afieldAddr, Try.underlying114, if9, sz9]
theorem fa114_1 (k o : Nat) : afieldAddr Try.prog 114 (.pointer (some ⟨k, o, none⟩)) 1 = some (.pointer (some ⟨k, o + 1, none⟩)) := by simp [afieldAddr, Try.underlying114, if3, sz3]
theorem fa117_0 (k o : Nat) : afieldAddr Try.prog 117 (.pointer (some ⟨k, o, none⟩)) 0 = some (.pointer (some ⟨k, o + 0, none⟩)) := by simp [afieldAddr, Try.underlying117, if9, sz9]
theorem fa117_1 (k o : Nat) : afieldAddr Try.prog 117 (.pointer (some ⟨k, o, none⟩)) 1 = some (.pointer (some ⟨k, o + 1, none⟩)) := by simp [afieldAddr, Try.underlying117, if3, sz3]
theorem fa118_0 (k o : Nat) : afieldAddr Try.prog 118 (.pointer (some ⟨k, o, none⟩)) 0 = some (.pointer (some ⟨k, o + 0, none⟩)) := by simp [afieldAddr, Try.underlying118, if9, sz9]
theorem fa118_1 (k o : Nat) : afieldAddr Try.prog 118 (.pointer (some ⟨k, o, none⟩)) 1 = some (.pointer (some ⟨k, o + 1, none⟩)) := by simp [afieldAddr, Try.underlying118, if3, sz3]
theorem fa122_0 (k o : Nat) : afieldAddr Try.prog 122 (.pointer (some ⟨k, o, none⟩)) 0 = some (.pointer (some ⟨k, o + 0, none⟩)) := by simp [afieldAddr, Try.underlying122, if3, sz3]
theorem fa122_1 (k o : Nat) : afieldAddr Try.prog 122 (.pointer (some ⟨k, o, none⟩)) 1 = some (.pointer (some ⟨k, o + 1, none⟩)) := by simp [afieldAddr, Try.underlying122, if3, sz3]
theorem fa122_2 (k o : Nat) : afieldAddr Try.prog 122 (.pointer (some ⟨k, o, none⟩)) 2 = some (.pointer (some ⟨k, o + 2, none⟩)) := by simp [afieldAddr, Try.underlying122, if3, sz3]
theorem fa122_3 (k o : Nat) : afieldAddr Try.prog 122 (.pointer (some ⟨k, o, none⟩)) 3 = some (.pointer (some ⟨k, o + 3, none⟩)) := by simp [afieldAddr, Try.underlying122, if9, sz9]
theorem fa123_0 (k o : Nat) : afieldAddr Try.prog 123 (.pointer (some ⟨k, o, none⟩)) 0 = some (.pointer (some ⟨k, o + 0, none⟩)) := by simp [afieldAddr, Try.underlying123, if3, sz3]
theorem fa123_1 (k o : Nat) : afieldAddr Try.prog 123 (.pointer (some ⟨k, o, none⟩)) 1 = some (.pointer (some ⟨k, o + 1, none⟩)) := by simp [afieldAddr, Try.underlying123, if3, sz3]
theorem fa123_2 (k o : Nat) : afieldAddr Try.prog 123 (.pointer (some ⟨k, o, none⟩)) 2 = some (.pointer (some ⟨k, o + 2, none⟩)) := by simp [afieldAddr, Try.underlying123, if3, sz3]
theorem fa123_3 (k o : Nat) : afieldAddr Try.prog 123 (.pointer (some ⟨k, o, none⟩)) 3 = some (.pointer (some ⟨k, o + 3, none⟩)) := by simp [afieldAddr, Try.underlying123, if9, sz9]
theorem fa138_0 (k o : Nat) : afieldAddr Try.prog 138 (.pointer (some ⟨k, o, none⟩)) 0 = some (.pointer (some ⟨k, o + 0, none⟩)) := by simp [afieldAddr, Try.underlying138, if3, sz3]
theorem fa138_1 (k o : Nat) : afieldAddr Try.prog 138 (.pointer (some ⟨k, o, none⟩)) 1 = some (.pointer (some ⟨k, o + 1, none⟩)) := by simp [afieldAddr, Try.underlying138, if4, sz4]
theorem fa138_2 (k o : Nat) : afieldAddr Try.prog 138 (.pointer (some ⟨k, o, none⟩)) 2 = some (.pointer (some ⟨k, o + 2, none⟩)) := by simp [afieldAddr, Try.underlying138, if3, sz3]
theorem fa138_3 (k o : Nat) : afieldAddr Try.prog 138 (.pointer (some ⟨k, o, none⟩)) 3 = some (.pointer (some ⟨k, o + 3, none⟩)) := by simp [afieldAddr, Try.underlying138, if3, sz3]
theorem fa139_0 (k o : Nat) : afieldAddr Try.prog 139 (.pointer (some ⟨k, o, none⟩)) 0 = some (.pointer (some ⟨k, o + 0, none⟩)) := by simp [afieldAddr, Try.underlying139, if3, sz3]
theorem fa139_1 (k o : Nat) : afieldAddr Try.prog 139 (.pointer (some ⟨k, o, none⟩)) 1 = some (.pointer (some ⟨k, o + 1, none⟩)) := by simp [afieldAddr, Try.underlying139, if4, sz4]
theorem fa139_2 (k o : Nat) : afieldAddr Try.prog 139 (.pointer (some ⟨k, o, none⟩)) 2 = some (.pointer (some ⟨k, o + 2, none⟩)) := by simp [afieldAddr, Try.underlying139, if3, sz3]
theorem fa139_3 (k o : Nat) : afieldAddr Try.prog 139 (.pointer (some ⟨k, o, none⟩)) 3 = some (.pointer (some ⟨k, o + 3, none⟩)) := by simp [afieldAddr, Try.underlying139, if3, sz3]
theorem fa150_0 (k o : Nat) : afieldAddr Try.prog 150 (.pointer (some ⟨k, o, none⟩)) 0 = some (.pointer (some ⟨k, o + 0, none⟩)) := by simp [afieldAddr, Try.underlying150, if3, sz3]
theorem fa150_1 (k o : Nat) : afieldAddr Try.prog 150 (.pointer (some ⟨k, o, none⟩)) 1 = some (.pointer (some ⟨k, o + 1, none⟩)) := by simp [afieldAddr, Try.underlying150, if9, sz9]
theorem fa150_2 (k o : Nat) : afieldAddr Try.prog 150 (.pointer (some ⟨k, o, none⟩)) 2 = some (.pointer (some ⟨k, o + 2, none⟩)) := by simp [afieldAddr, Try.underlying150, if3, sz3]
theorem fa150_3 (k o : Nat) : afieldAddr Try.prog 150 (.pointer (some ⟨k, o, none⟩)) 3 = some (.pointer (some ⟨k, o + 3, none⟩)) := by simp [afieldAddr, Try.underlying150, if3, sz3]
theorem fa151_0 (k o : Nat) : afieldAddr Try.prog 151 (.pointer (some ⟨k, o, none⟩)) 0 = some (.pointer (some ⟨k, o + 0, none⟩)) := by simp [afieldAddr, Try.underlying151, if3, sz3]
theorem fa151_1 (k o : Nat) : afieldAddr Try.prog 151 (.pointer (some ⟨k, o, none⟩)) 1 = some (.pointer (some ⟨k, o + 1, none⟩)) := by simp [afieldAddr, Try.underlying151, if9, sz9]
theorem fa151_2 (k o : Nat) : afieldAddr Try.prog 151 (.pointer (some ⟨k, o, none⟩)) 2 = some (.pointer (some ⟨k, o + 2, none⟩)) := by simp [afieldAddr, Try.underlying151, if3, sz3]
theorem fa151_3 (k o : Nat) : afieldAddr Try.prog 151 (.pointer (some ⟨k, o, none⟩)) 3 = some (.pointer (some ⟨k, o + 3, none⟩)) := by simp [afieldAddr, Try.underlying151, if3, sz3]
theorem fa153_0 (k o : Nat) : afieldAddr Try.prog 153 (.pointer (some ⟨k, o, none⟩)) 0 = some (.pointer (some ⟨k, o + 0, none⟩)) := by simp [afieldAddr, Try.underlying153, if9, sz9]
theorem fa153_1 (k o : Nat) : afieldAddr Try.prog 153 (.pointer (some ⟨k, o, none⟩)) 1 = some (.pointer (some ⟨k, o + 1, none⟩)) := by simp [afieldAddr, Try.underlying153, if3, sz3]
theorem fa153_2 (k o : Nat) : afieldAddr Try.prog 153 (.pointer (some ⟨k, o, none⟩)) 2 = some (.pointer (some ⟨k, o + 2, none⟩)) := by simp [afieldAddr, Try.underlying153, if3, sz3]
theorem fa153_3 (k o : Nat) : afieldAddr Try.prog 153 (.pointer (some ⟨k, o, none⟩)) 3 = some (.pointer (some ⟨k, o + 3, none⟩)) := by simp [afieldAddr, Try.underlying153, if3, sz3]
theorem fa155_0 (k o : Nat) : afieldAddr Try.prog 155 (.pointer (some ⟨k, o, none⟩)) 0 = some (.pointer (some ⟨k, o + 0, none⟩)) := by simp [afieldAddr, Try.underlying155, if9, sz9]
theorem fa155_1 (k o : Nat) : afieldAddr Try.prog 155 (.pointer (some ⟨k, o, none⟩)) 1 = some (.pointer (some ⟨k, o + 1, none⟩)) := by simp [afieldAddr, Try.underlying155, if3, sz3]
theorem fa157_0 (k o : Nat) : afieldAddr Try.prog 157 (.pointer (some ⟨k, o, none⟩)) 0 = some (.pointer (some ⟨k, o + 0, none⟩)) := by simp [afieldAddr, Try.underlying157, if23, sz23]
theorem fa157_1 (k o : Nat) : afieldAddr Try.prog 157 (.pointer (some ⟨k, o, none⟩)) 1 = some (.pointer (some ⟨k, o + 3, none⟩)) := by simp [afieldAddr, Try.underlying157, if24, sz24]
theorem fa157_2 (k o : Nat) : afieldAddr Try.prog 157 (.pointer (some ⟨k, o, none⟩)) 2 = some (.pointer (some ⟨k, o + 4, none⟩)) := by simp [afieldAddr, Try.underlying157, if56, sz56]
theorem fa157_3 (k o : Nat) : afieldAddr Try.prog 157 (.pointer (some ⟨k, o, none⟩)) 3 = some (.pointer (some ⟨k, o + 5, none⟩)) := by simp [afieldAddr, Try.underlying157, if3, sz3]
theorem fa158_0 (k o : Nat) : afieldAddr Try.prog 158 (.pointer (some ⟨k, o, none⟩)) 0 = some (.pointer (some ⟨k, o + 0, none⟩)) := by simp [afieldAddr, Try.underlying158, if23, sz23]
theorem fa158_1 (k o : Nat) : afieldAddr Try.prog 158 (.pointer (some ⟨k, o, none⟩)) 1 = some (.pointer (some ⟨k, o + 3, none⟩)) := by simp [afieldAddr, Try.underlying158, if24, sz24]
theorem fa158_2 (k o : Nat) : afieldAddr Try.prog 158 (.pointer (some ⟨k, o, none⟩)) 2 = some (.pointer (some ⟨k, o + 4, none⟩)) := by simp [afieldAddr, Try.underlying158, if56, sz56]
theorem fa158_3 (k o : Nat) : afieldAddr Try.prog 158 (.pointer (some ⟨k, o, none⟩)) 3 = some (.pointer (some ⟨k, o + 5, none⟩)) := by simp [afieldAddr, Try.underlying158, if3, sz3]
theorem fa159_0 (k o : Nat) : afieldAddr Try.prog 159 (.pointer (some ⟨k, o, none⟩)) 0 = some (.pointer (some ⟨k, o + 0, none⟩)) := by simp [afieldAddr, Try.underlying159, if3, sz3]
theorem fa159_1 (k o : Nat) : afieldAddr Try.prog 159 (.pointer (some ⟨k, o, none⟩)) 1 = some (.pointer (some ⟨k, o + 1, none⟩)) := by simp [afieldAddr, Try.underlying159, if158, sz158]
theorem fa159_2 (k o : Nat) : afieldAddr Try.prog 159 (.pointer (some ⟨k, o, none⟩)) 2 = some (.pointer (some ⟨k, o + 7, none⟩)) := by simp [afieldAddr, Try.underlying159, if9, sz9]
theorem fa159_3 (k o : Nat) : afieldAddr Try.prog 159 (.pointer (some ⟨k, o, none⟩)) 3 = some (.pointer (some ⟨k, o + 8, none⟩)) := by simp [afieldAddr, Try.underlying159, if3, sz3]
theorem fa159_4 (k o : Nat) : afieldAddr Try.prog 159 (.pointer (some ⟨k, o, none⟩)) 4 = some (.pointer (some ⟨k, o + 9, none⟩)) := by simp [afieldAddr, Try.underlying159, if3, sz3]
theorem fa160_0 (k o : Nat) : afieldAddr Try.prog 160 (.pointer (some ⟨k, o, none⟩)) 0 = some (.pointer (some ⟨k, o + 0, none⟩)) := by simp [afieldAddr, Try.underlying160, if3, sz3]
theorem fa160_1 (k o : Nat) : afieldAddr Try.prog 160 (.pointer (some ⟨k, o, none⟩)) 1 = some (.pointer (some ⟨k, o + 1, none⟩)) := by simp [afieldAddr, Try.underlying160, if158, sz158]
theorem fa160_2 (k o : Nat) : afieldAddr Try.prog 160 (.pointer (some ⟨k, o, none⟩)) 2 = some (.pointer (some ⟨k, o + 7, none⟩)) := by simp [afieldAddr, Try.underlying160, if9, sz9]
theorem fa160_3 (k o : Nat) : afieldAddr Try.prog 160 (.pointer (some ⟨k, o, none⟩)) 3 = some (.pointer (some ⟨k, o + 8, none⟩)) := by simp [afieldAddr, Try.underlying160, if3, sz3]
theorem fa160_4 (k o : Nat) : afieldAddr Try.prog 160 (.pointer (some ⟨k, o, none⟩)) 4 = some (.pointer (some ⟨k, o + 9, none⟩)) := by simp [afieldAddr, Try.underlying160, if3, sz3]
theorem fa162_0 (k o : Nat) : afieldAddr Try.prog 162 (.pointer (some ⟨k, o, none⟩)) 0 = some (.pointer (some ⟨k, o + 0, none⟩)) := by simp [afieldAddr, Try.underlying162, if9, sz9]
theorem fa162_1 (k o : Nat) : afieldAddr Try.prog 162 (.pointer (some ⟨k, o, none⟩)) 1 = some (.pointer (some ⟨k, o + 1, none⟩)) := by simp [afieldAddr, Try.underlying162, if3, sz3]
theorem fa164_0 (k o : Nat) : afieldAddr Try.prog 164 (.pointer (some ⟨k, o, none⟩)) 0 = some (.pointer (some ⟨k, o + 0, none⟩)) := by simp [afieldAddr, Try.underlying164, if3, sz3]
theorem fa164_1 (k o : Nat) : afieldAddr Try.prog 164 (.pointer (some ⟨k, o, none⟩)) 1 = some (.pointer (some ⟨k, o + 1, none⟩)) := by simp [afieldAddr, Try.underlying164, if3, sz3]
theorem fa164_2 (k o : Nat) : afieldAddr Try.prog 164 (.pointer (some ⟨k, o, none⟩)) 2 = some (.pointer (some ⟨k, o + 2, none⟩)) := by simp [afieldAddr, Try.underlying164, if64, sz64]
theorem fa164_3 (k o : Nat) : afieldAddr Try.prog 164 (.pointer (some ⟨k, o, none⟩)) 3 = some (.pointer (some ⟨k, o + 4, none⟩)) := by simp [afieldAddr, Try.underlying164, if3, sz3]
theorem fa165_0 (k o : Nat) : afieldAddr Try.prog 165 (.pointer (some ⟨k, o, none⟩)) 0 = some (.pointer (some ⟨k, o + 0, none⟩)) := by simp [afieldAddr, Try.underlying165, if3, sz3]
theorem fa165_1 (k o : Nat) : afieldAddr Try.prog 165 (.pointer (some ⟨k, o, none⟩)) 1 = some (.pointer (some ⟨k, o + 1, none⟩)) := by simp [afieldAddr, Try.underlying165, if3, sz3]
theorem fa165_2 (k o : Nat) : afieldAddr Try.prog 165 (.pointer (some ⟨k, o, none⟩)) 2 = some (.pointer (some ⟨k, o + 2, none⟩)) := by simp [afieldAddr, Try.underlying165, if64, sz64]
theorem fa165_3 (k o : Nat) : afieldAddr Try.prog 165 (.pointer (some ⟨k, o, none⟩)) 3 = some (.pointer (some ⟨k, o + 4, none⟩)) := by simp [afieldAddr, Try.underlying165, if3, sz3]
theorem fa167_0 (k o : Nat) : afieldAddr Try.prog 167 (.pointer (some ⟨k, o, none⟩)) 0 = some (.pointer (some ⟨k, o + 0, none⟩)) := by simp [afieldAddr, Try.underlying167, if3, sz3]
theorem fa167_1 (k o : Nat) : afieldAddr Try.prog 167 (.pointer (some ⟨k, o, none⟩)) 1 = some (.pointer (some ⟨k, o + 1, none⟩)) := by simp [afieldAddr, Try.underlying167, if3, sz3]
theorem fa167_2 (k o : Nat) : afieldAddr Try.prog 167 (.pointer (some ⟨k, o, none⟩)) 2 = some (.pointer (some ⟨k, o + 2, none⟩)) := by simp [afieldAddr, Try.underlying167, if3, sz3]
theorem fa167_3 (k o : Nat) : afieldAddr Try.prog 167 (.pointer (some ⟨k, o, none⟩)) 3 = some (.pointer (some ⟨k, o + 3, none⟩)) := by simp [afieldAddr, Try.underlying167, if9, sz9]
theorem fa182_0 (k o : Nat) : afieldAddr Try.prog 182 (.pointer (some ⟨k, o, none⟩)) 0 = some (.pointer (some ⟨k, o + 0, none⟩)) := by simp [afieldAddr, Try.underlying182, if3, sz3]
theorem fa182_1 (k o : Nat) : afieldAddr Try.prog 182 (.pointer (some ⟨k, o, none⟩)) 1 = some (.pointer (some ⟨k, o + 1, none⟩)) := by simp [afieldAddr, Try.underlying182, if9, sz9]
theorem fa182_2 (k o : Nat) : afieldAddr Try.prog 182 (.pointer (some ⟨k, o, none⟩)) 2 = some (.pointer (some ⟨k, o + 2, none⟩)) := by simp [afieldAddr, Try.underlying182, if3, sz3]
theorem fa182_3 (k o : Nat) : afieldAddr Try.prog 182 (.pointer (some ⟨k, o, none⟩)) 3 = some (.pointer (some ⟨k, o + 3, none⟩)) := by simp [afieldAddr, Try.underlying182, if3, sz3]
theorem eq23 (a b : D.Grid) : ∃ q, eqv Try.prog 20 23 (.agg #[Value.int .i64 a.Rows, Value.int .i64 a.Cols, Value.string a.Cells]) (.agg #[Value.int .i64 b.Rows, Value.int .i64 b.Cols, Value.string b.Cells]) = some q ∧ (q = true ↔ a = b) := by
  refine ⟨_, eqv_struct 19 Try.underlying23 rfl (by kernel_rfl) (eqf_cons rfl (apart_one st3 rfl) (apart_one st3 rfl) (eqv_int 18 Try.underlying3) (eqf_cons rfl (apart_one st3 rfl) (apart_one st3 rfl) (eqv_int 18 Try.underlying3) (eqf_cons rfl (apart_one st9 rfl) (apart_one st9 rfl) (eqv_str 18 Try.underlying9) eqf_nil))), ?_⟩
  obtain ⟨a0, a1, a2⟩ := a
  obtain ⟨b0, b1, b2⟩ := b
  simp
theorem beq23 (a b : D.Grid) (xo yo : Operand) : ∃ q, abop Try.prog .eql 23 xo yo (.agg #[Value.int .i64 a.Rows, Value.int .i64 a.Cols, Value.string a.Cells]) (.agg #[Value.int .i64 b.Rows, Value.int .i64 b.Cols, Value.string b.Cells]) = some (.bool q) ∧ (q = true ↔ a = b) := by
  obtain ⟨q, h1, h2⟩ := eq23 a b
  exact ⟨q, abop_eql (by simp [closedV, closed1]) (by simp [closedV, closed1]) (by kernel_rfl) h1, h2⟩
theorem bne23 (a b : D.Grid) (xo yo : Operand) : ∃ q, abop Try.prog .neq 23 xo yo (.agg #[Value.int .i64 a.Rows, Value.int .i64 a.Cols, Value.string a.Cells]) (.agg #[Value.int .i64 b.Rows, Value.int .i64 b.Cols, Value.string b.Cells]) = some (.bool (!q)) ∧ (q = true ↔ a = b) := by
  obtain ⟨q, h1, h2⟩ := eq23 a b
  exact ⟨q, abop_neq (by simp [closedV, closed1]) (by simp [closedV, closed1]) (by kernel_rfl) h1, h2⟩
theorem eq29 (a b : D.Grid) : ∃ q, eqv Try.prog 20 29 (.agg #[Value.int .i64 a.Rows, Value.int .i64 a.Cols, Value.string a.Cells]) (.agg #[Value.int .i64 b.Rows, Value.int .i64 b.Cols, Value.string b.Cells]) = some q ∧ (q = true ↔ a = b) := by
  refine ⟨_, eqv_struct 19 Try.underlying29 rfl (by kernel_rfl) (eqf_cons rfl (apart_one st3 rfl) (apart_one st3 rfl) (eqv_int 18 Try.underlying3) (eqf_cons rfl (apart_one st3 rfl) (apart_one st3 rfl) (eqv_int 18 Try.underlying3) (eqf_cons rfl (apart_one st9 rfl) (apart_one st9 rfl) (eqv_str 18 Try.underlying9) eqf_nil))), ?_⟩
  obtain ⟨a0, a1, a2⟩ := a
  obtain ⟨b0, b1, b2⟩ := b
  simp
theorem beq29 (a b : D.Grid) (xo yo : Operand) : ∃ q, abop Try.prog .eql 29 xo yo (.agg #[Value.int .i64 a.Rows, Value.int .i64 a.Cols, Value.string a.Cells]) (.agg #[Value.int .i64 b.Rows, Value.int .i64 b.Cols, Value.string b.Cells]) = some (.bool q) ∧ (q = true ↔ a = b) := by
  obtain ⟨q, h1, h2⟩ := eq29 a b
  exact ⟨q, abop_eql (by simp [closedV, closed1]) (by simp [closedV, closed1]) (by kernel_rfl) h1, h2⟩
theorem bne29 (a b : D.Grid) (xo yo : Operand) : ∃ q, abop Try.prog .neq 29 xo yo (.agg #[Value.int .i64 a.Rows, Value.int .i64 a.Cols, Value.string a.Cells]) (.agg #[Value.int .i64 b.Rows, Value.int .i64 b.Cols, Value.string b.Cells]) = some (.bool (!q)) ∧ (q = true ↔ a = b) := by
  obtain ⟨q, h1, h2⟩ := eq29 a b
  exact ⟨q, abop_neq (by simp [closedV, closed1]) (by simp [closedV, closed1]) (by kernel_rfl) h1, h2⟩
theorem eq111 (a b : D.Listed) : ∃ q, eqv Try.prog 20 111 (.agg #[Value.string a.Word, Value.int .i64 a.From, Value.int .i64 a.Until, Value.int .i64 a.Score]) (.agg #[Value.string b.Word, Value.int .i64 b.From, Value.int .i64 b.Until, Value.int .i64 b.Score]) = some q ∧ (q = true ↔ a = b) := by
  refine ⟨_, eqv_struct 19 Try.underlying111 rfl (by kernel_rfl) (eqf_cons rfl (apart_one st9 rfl) (apart_one st9 rfl) (eqv_str 18 Try.underlying9) (eqf_cons rfl (apart_one st3 rfl) (apart_one st3 rfl) (eqv_int 18 Try.underlying3) (eqf_cons rfl (apart_one st3 rfl) (apart_one st3 rfl) (eqv_int 18 Try.underlying3) (eqf_cons rfl (apart_one st3 rfl) (apart_one st3 rfl) (eqv_int 18 Try.underlying3) eqf_nil)))), ?_⟩
  obtain ⟨a0, a1, a2, a3⟩ := a
  obtain ⟨b0, b1, b2, b3⟩ := b
  simp
theorem beq111 (a b : D.Listed) (xo yo : Operand) : ∃ q, abop Try.prog .eql 111 xo yo (.agg #[Value.string a.Word, Value.int .i64 a.From, Value.int .i64 a.Until, Value.int .i64 a.Score]) (.agg #[Value.string b.Word, Value.int .i64 b.From, Value.int .i64 b.Until, Value.int .i64 b.Score]) = some (.bool q) ∧ (q = true ↔ a = b) := by
  obtain ⟨q, h1, h2⟩ := eq111 a b
  exact ⟨q, abop_eql (by simp [closedV, closed1]) (by simp [closedV, closed1]) (by kernel_rfl) h1, h2⟩
theorem bne111 (a b : D.Listed) (xo yo : Operand) : ∃ q, abop Try.prog .neq 111 xo yo (.agg #[Value.string a.Word, Value.int .i64 a.From, Value.int .i64 a.Until, Value.int .i64 a.Score]) (.agg #[Value.string b.Word, Value.int .i64 b.From, Value.int .i64 b.Until, Value.int .i64 b.Score]) = some (.bool (!q)) ∧ (q = true ↔ a = b) := by
  obtain ⟨q, h1, h2⟩ := eq111 a b
  exact ⟨q, abop_neq (by simp [closedV, closed1]) (by simp [closedV, closed1]) (by kernel_rfl) h1, h2⟩
theorem eq114 (a b : D.Meaning) : ∃ q, eqv Try.prog 20 114 (.agg #[Value.string a.Word, Value.int .i64 a.Sense]) (.agg #[Value.string b.Word, Value.int .i64 b.Sense]) = some q ∧ (q = true ↔ a = b) := by
  refine ⟨_, eqv_struct 19 Try.underlying114 rfl (by kernel_rfl) (eqf_cons rfl (apart_one st9 rfl) (apart_one st9 rfl) (eqv_str 18 Try.underlying9) (eqf_cons rfl (apart_one st3 rfl) (apart_one st3 rfl) (eqv_int 18 Try.underlying3) eqf_nil)), ?_⟩
  obtain ⟨a0, a1⟩ := a
  obtain ⟨b0, b1⟩ := b
  simp
theorem beq114 (a b : D.Meaning) (xo yo : Operand) : ∃ q, abop Try.prog .eql 114 xo yo (.agg #[Value.string a.Word, Value.int .i64 a.Sense]) (.agg #[Value.string b.Word, Value.int .i64 b.Sense]) = some (.bool q) ∧ (q = true ↔ a = b) := by
  obtain ⟨q, h1, h2⟩ := eq114 a b
  exact ⟨q, abop_eql (by simp [closedV, closed1]) (by simp [closedV, closed1]) (by kernel_rfl) h1, h2⟩
theorem bne114 (a b : D.Meaning) (xo yo : Operand) : ∃ q, abop Try.prog .neq 114 xo yo (.agg #[Value.string a.Word, Value.int .i64 a.Sense]) (.agg #[Value.string b.Word, Value.int .i64 b.Sense]) = some (.bool (!q)) ∧ (q = true ↔ a = b) := by
  obtain ⟨q, h1, h2⟩ := eq114 a b
  exact ⟨q, abop_neq (by simp [closedV, closed1]) (by simp [closedV, closed1]) (by kernel_rfl) h1, h2⟩
theorem eq118 (a b : D.Used) : ∃ q, eqv Try.prog 20 118 (.agg #[Value.string a.Word, Value.int .i64 a.Issue]) (.agg #[Value.string b.Word, Value.int .i64 b.Issue]) = some q ∧ (q = true ↔ a = b) := by
  refine ⟨_, eqv_struct 19 Try.underlying118 rfl (by kernel_rfl) (eqf_cons rfl (apart_one st9 rfl) (apart_one st9 rfl) (eqv_str 18 Try.underlying9) (eqf_cons rfl (apart_one st3 rfl) (apart_one st3 rfl) (eqv_int 18 Try.underlying3) eqf_nil)), ?_⟩
  obtain ⟨a0, a1⟩ := a
  obtain ⟨b0, b1⟩ := b
  simp
theorem beq118 (a b : D.Used) (xo yo : Operand) : ∃ q, abop Try.prog .eql 118 xo yo (.agg #[Value.string a.Word, Value.int .i64 a.Issue]) (.agg #[Value.string b.Word, Value.int .i64 b.Issue]) = some (.bool q) ∧ (q = true ↔ a = b) := by
  obtain ⟨q, h1, h2⟩ := eq118 a b
  exact ⟨q, abop_eql (by simp [closedV, closed1]) (by simp [closedV, closed1]) (by kernel_rfl) h1, h2⟩
theorem bne118 (a b : D.Used) (xo yo : Operand) : ∃ q, abop Try.prog .neq 118 xo yo (.agg #[Value.string a.Word, Value.int .i64 a.Issue]) (.agg #[Value.string b.Word, Value.int .i64 b.Issue]) = some (.bool (!q)) ∧ (q = true ↔ a = b) := by
  obtain ⟨q, h1, h2⟩ := eq118 a b
  exact ⟨q, abop_neq (by simp [closedV, closed1]) (by simp [closedV, closed1]) (by kernel_rfl) h1, h2⟩
theorem eq123 (a b : D.Entry) : ∃ q, eqv Try.prog 20 123 (.agg #[Value.int .i64 a.Player, Value.int .i64 a.Issue, Value.int .i64 a.Tick, Value.string a.Fill]) (.agg #[Value.int .i64 b.Player, Value.int .i64 b.Issue, Value.int .i64 b.Tick, Value.string b.Fill]) = some q ∧ (q = true ↔ a = b) := by
  refine ⟨_, eqv_struct 19 Try.underlying123 rfl (by kernel_rfl) (eqf_cons rfl (apart_one st3 rfl) (apart_one st3 rfl) (eqv_int 18 Try.underlying3) (eqf_cons rfl (apart_one st3 rfl) (apart_one st3 rfl) (eqv_int 18 Try.underlying3) (eqf_cons rfl (apart_one st3 rfl) (apart_one st3 rfl) (eqv_int 18 Try.underlying3) (eqf_cons rfl (apart_one st9 rfl) (apart_one st9 rfl) (eqv_str 18 Try.underlying9) eqf_nil)))), ?_⟩
  obtain ⟨a0, a1, a2, a3⟩ := a
  obtain ⟨b0, b1, b2, b3⟩ := b
  simp
theorem beq123 (a b : D.Entry) (xo yo : Operand) : ∃ q, abop Try.prog .eql 123 xo yo (.agg #[Value.int .i64 a.Player, Value.int .i64 a.Issue, Value.int .i64 a.Tick, Value.string a.Fill]) (.agg #[Value.int .i64 b.Player, Value.int .i64 b.Issue, Value.int .i64 b.Tick, Value.string b.Fill]) = some (.bool q) ∧ (q = true ↔ a = b) := by
  obtain ⟨q, h1, h2⟩ := eq123 a b
  exact ⟨q, abop_eql (by simp [closedV, closed1]) (by simp [closedV, closed1]) (by kernel_rfl) h1, h2⟩
theorem bne123 (a b : D.Entry) (xo yo : Operand) : ∃ q, abop Try.prog .neq 123 xo yo (.agg #[Value.int .i64 a.Player, Value.int .i64 a.Issue, Value.int .i64 a.Tick, Value.string a.Fill]) (.agg #[Value.int .i64 b.Player, Value.int .i64 b.Issue, Value.int .i64 b.Tick, Value.string b.Fill]) = some (.bool (!q)) ∧ (q = true ↔ a = b) := by
  obtain ⟨q, h1, h2⟩ := eq123 a b
  exact ⟨q, abop_neq (by simp [closedV, closed1]) (by simp [closedV, closed1]) (by kernel_rfl) h1, h2⟩
theorem eq139 (a b : D.Slot) : ∃ q, eqv Try.prog 20 139 (.agg #[Value.int .i64 a.Number, Value.bool a.Down, Value.int .i64 a.Cell, Value.int .i64 a.Length]) (.agg #[Value.int .i64 b.Number, Value.bool b.Down, Value.int .i64 b.Cell, Value.int .i64 b.Length]) = some q ∧ (q = true ↔ a = b) := by
  refine ⟨_, eqv_struct 19 Try.underlying139 rfl (by kernel_rfl) (eqf_cons rfl (apart_one st3 rfl) (apart_one st3 rfl) (eqv_int 18 Try.underlying3) (eqf_cons rfl (apart_one st4 rfl) (apart_one st4 rfl) (eqv_bool 18 Try.underlying4) (eqf_cons rfl (apart_one st3 rfl) (apart_one st3 rfl) (eqv_int 18 Try.underlying3) (eqf_cons rfl (apart_one st3 rfl) (apart_one st3 rfl) (eqv_int 18 Try.underlying3) eqf_nil)))), ?_⟩
  obtain ⟨a0, a1, a2, a3⟩ := a
  obtain ⟨b0, b1, b2, b3⟩ := b
  simp
theorem beq139 (a b : D.Slot) (xo yo : Operand) : ∃ q, abop Try.prog .eql 139 xo yo (.agg #[Value.int .i64 a.Number, Value.bool a.Down, Value.int .i64 a.Cell, Value.int .i64 a.Length]) (.agg #[Value.int .i64 b.Number, Value.bool b.Down, Value.int .i64 b.Cell, Value.int .i64 b.Length]) = some (.bool q) ∧ (q = true ↔ a = b) := by
  obtain ⟨q, h1, h2⟩ := eq139 a b
  exact ⟨q, abop_eql (by simp [closedV, closed1]) (by simp [closedV, closed1]) (by kernel_rfl) h1, h2⟩
theorem bne139 (a b : D.Slot) (xo yo : Operand) : ∃ q, abop Try.prog .neq 139 xo yo (.agg #[Value.int .i64 a.Number, Value.bool a.Down, Value.int .i64 a.Cell, Value.int .i64 a.Length]) (.agg #[Value.int .i64 b.Number, Value.bool b.Down, Value.int .i64 b.Cell, Value.int .i64 b.Length]) = some (.bool (!q)) ∧ (q = true ↔ a = b) := by
  obtain ⟨q, h1, h2⟩ := eq139 a b
  exact ⟨q, abop_neq (by simp [closedV, closed1]) (by simp [closedV, closed1]) (by kernel_rfl) h1, h2⟩
theorem eq151 (a b : D.Step) : ∃ q, eqv Try.prog 20 151 (.agg #[Value.int .i64 a.Kind, Value.string a.Word, Value.int .i64 a.A, Value.int .i64 a.B]) (.agg #[Value.int .i64 b.Kind, Value.string b.Word, Value.int .i64 b.A, Value.int .i64 b.B]) = some q ∧ (q = true ↔ a = b) := by
  refine ⟨_, eqv_struct 19 Try.underlying151 rfl (by kernel_rfl) (eqf_cons rfl (apart_one st3 rfl) (apart_one st3 rfl) (eqv_int 18 Try.underlying3) (eqf_cons rfl (apart_one st9 rfl) (apart_one st9 rfl) (eqv_str 18 Try.underlying9) (eqf_cons rfl (apart_one st3 rfl) (apart_one st3 rfl) (eqv_int 18 Try.underlying3) (eqf_cons rfl (apart_one st3 rfl) (apart_one st3 rfl) (eqv_int 18 Try.underlying3) eqf_nil)))), ?_⟩
  obtain ⟨a0, a1, a2, a3⟩ := a
  obtain ⟨b0, b1, b2, b3⟩ := b
  simp
theorem beq151 (a b : D.Step) (xo yo : Operand) : ∃ q, abop Try.prog .eql 151 xo yo (.agg #[Value.int .i64 a.Kind, Value.string a.Word, Value.int .i64 a.A, Value.int .i64 a.B]) (.agg #[Value.int .i64 b.Kind, Value.string b.Word, Value.int .i64 b.A, Value.int .i64 b.B]) = some (.bool q) ∧ (q = true ↔ a = b) := by
  obtain ⟨q, h1, h2⟩ := eq151 a b
  exact ⟨q, abop_eql (by simp [closedV, closed1]) (by simp [closedV, closed1]) (by kernel_rfl) h1, h2⟩
theorem bne151 (a b : D.Step) (xo yo : Operand) : ∃ q, abop Try.prog .neq 151 xo yo (.agg #[Value.int .i64 a.Kind, Value.string a.Word, Value.int .i64 a.A, Value.int .i64 a.B]) (.agg #[Value.int .i64 b.Kind, Value.string b.Word, Value.int .i64 b.A, Value.int .i64 b.B]) = some (.bool (!q)) ∧ (q = true ↔ a = b) := by
  obtain ⟨q, h1, h2⟩ := eq151 a b
  exact ⟨q, abop_neq (by simp [closedV, closed1]) (by simp [closedV, closed1]) (by kernel_rfl) h1, h2⟩
theorem eq153 (a b : D.Listed) : ∃ q, eqv Try.prog 20 153 (.agg #[Value.string a.Word, Value.int .i64 a.From, Value.int .i64 a.Until, Value.int .i64 a.Score]) (.agg #[Value.string b.Word, Value.int .i64 b.From, Value.int .i64 b.Until, Value.int .i64 b.Score]) = some q ∧ (q = true ↔ a = b) := by
  refine ⟨_, eqv_struct 19 Try.underlying153 rfl (by kernel_rfl) (eqf_cons rfl (apart_one st9 rfl) (apart_one st9 rfl) (eqv_str 18 Try.underlying9) (eqf_cons rfl (apart_one st3 rfl) (apart_one st3 rfl) (eqv_int 18 Try.underlying3) (eqf_cons rfl (apart_one st3 rfl) (apart_one st3 rfl) (eqv_int 18 Try.underlying3) (eqf_cons rfl (apart_one st3 rfl) (apart_one st3 rfl) (eqv_int 18 Try.underlying3) eqf_nil)))), ?_⟩
  obtain ⟨a0, a1, a2, a3⟩ := a
  obtain ⟨b0, b1, b2, b3⟩ := b
  simp
theorem beq153 (a b : D.Listed) (xo yo : Operand) : ∃ q, abop Try.prog .eql 153 xo yo (.agg #[Value.string a.Word, Value.int .i64 a.From, Value.int .i64 a.Until, Value.int .i64 a.Score]) (.agg #[Value.string b.Word, Value.int .i64 b.From, Value.int .i64 b.Until, Value.int .i64 b.Score]) = some (.bool q) ∧ (q = true ↔ a = b) := by
  obtain ⟨q, h1, h2⟩ := eq153 a b
  exact ⟨q, abop_eql (by simp [closedV, closed1]) (by simp [closedV, closed1]) (by kernel_rfl) h1, h2⟩
theorem bne153 (a b : D.Listed) (xo yo : Operand) : ∃ q, abop Try.prog .neq 153 xo yo (.agg #[Value.string a.Word, Value.int .i64 a.From, Value.int .i64 a.Until, Value.int .i64 a.Score]) (.agg #[Value.string b.Word, Value.int .i64 b.From, Value.int .i64 b.Until, Value.int .i64 b.Score]) = some (.bool (!q)) ∧ (q = true ↔ a = b) := by
  obtain ⟨q, h1, h2⟩ := eq153 a b
  exact ⟨q, abop_neq (by simp [closedV, closed1]) (by simp [closedV, closed1]) (by kernel_rfl) h1, h2⟩
theorem eq155 (a b : D.Meaning) : ∃ q, eqv Try.prog 20 155 (.agg #[Value.string a.Word, Value.int .i64 a.Sense]) (.agg #[Value.string b.Word, Value.int .i64 b.Sense]) = some q ∧ (q = true ↔ a = b) := by
  refine ⟨_, eqv_struct 19 Try.underlying155 rfl (by kernel_rfl) (eqf_cons rfl (apart_one st9 rfl) (apart_one st9 rfl) (eqv_str 18 Try.underlying9) (eqf_cons rfl (apart_one st3 rfl) (apart_one st3 rfl) (eqv_int 18 Try.underlying3) eqf_nil)), ?_⟩
  obtain ⟨a0, a1⟩ := a
  obtain ⟨b0, b1⟩ := b
  simp
theorem beq155 (a b : D.Meaning) (xo yo : Operand) : ∃ q, abop Try.prog .eql 155 xo yo (.agg #[Value.string a.Word, Value.int .i64 a.Sense]) (.agg #[Value.string b.Word, Value.int .i64 b.Sense]) = some (.bool q) ∧ (q = true ↔ a = b) := by
  obtain ⟨q, h1, h2⟩ := eq155 a b
  exact ⟨q, abop_eql (by simp [closedV, closed1]) (by simp [closedV, closed1]) (by kernel_rfl) h1, h2⟩
theorem bne155 (a b : D.Meaning) (xo yo : Operand) : ∃ q, abop Try.prog .neq 155 xo yo (.agg #[Value.string a.Word, Value.int .i64 a.Sense]) (.agg #[Value.string b.Word, Value.int .i64 b.Sense]) = some (.bool (!q)) ∧ (q = true ↔ a = b) := by
  obtain ⟨q, h1, h2⟩ := eq155 a b
  exact ⟨q, abop_neq (by simp [closedV, closed1]) (by simp [closedV, closed1]) (by kernel_rfl) h1, h2⟩
theorem eq162 (a b : D.Used) : ∃ q, eqv Try.prog 20 162 (.agg #[Value.string a.Word, Value.int .i64 a.Issue]) (.agg #[Value.string b.Word, Value.int .i64 b.Issue]) = some q ∧ (q = true ↔ a = b) := by
  refine ⟨_, eqv_struct 19 Try.underlying162 rfl (by kernel_rfl) (eqf_cons rfl (apart_one st9 rfl) (apart_one st9 rfl) (eqv_str 18 Try.underlying9) (eqf_cons rfl (apart_one st3 rfl) (apart_one st3 rfl) (eqv_int 18 Try.underlying3) eqf_nil)), ?_⟩
  obtain ⟨a0, a1⟩ := a
  obtain ⟨b0, b1⟩ := b
  simp
theorem beq162 (a b : D.Used) (xo yo : Operand) : ∃ q, abop Try.prog .eql 162 xo yo (.agg #[Value.string a.Word, Value.int .i64 a.Issue]) (.agg #[Value.string b.Word, Value.int .i64 b.Issue]) = some (.bool q) ∧ (q = true ↔ a = b) := by
  obtain ⟨q, h1, h2⟩ := eq162 a b
  exact ⟨q, abop_eql (by simp [closedV, closed1]) (by simp [closedV, closed1]) (by kernel_rfl) h1, h2⟩
theorem bne162 (a b : D.Used) (xo yo : Operand) : ∃ q, abop Try.prog .neq 162 xo yo (.agg #[Value.string a.Word, Value.int .i64 a.Issue]) (.agg #[Value.string b.Word, Value.int .i64 b.Issue]) = some (.bool (!q)) ∧ (q = true ↔ a = b) := by
  obtain ⟨q, h1, h2⟩ := eq162 a b
  exact ⟨q, abop_neq (by simp [closedV, closed1]) (by simp [closedV, closed1]) (by kernel_rfl) h1, h2⟩
theorem eq167 (a b : D.Entry) : ∃ q, eqv Try.prog 20 167 (.agg #[Value.int .i64 a.Player, Value.int .i64 a.Issue, Value.int .i64 a.Tick, Value.string a.Fill]) (.agg #[Value.int .i64 b.Player, Value.int .i64 b.Issue, Value.int .i64 b.Tick, Value.string b.Fill]) = some q ∧ (q = true ↔ a = b) := by
  refine ⟨_, eqv_struct 19 Try.underlying167 rfl (by kernel_rfl) (eqf_cons rfl (apart_one st3 rfl) (apart_one st3 rfl) (eqv_int 18 Try.underlying3) (eqf_cons rfl (apart_one st3 rfl) (apart_one st3 rfl) (eqv_int 18 Try.underlying3) (eqf_cons rfl (apart_one st3 rfl) (apart_one st3 rfl) (eqv_int 18 Try.underlying3) (eqf_cons rfl (apart_one st9 rfl) (apart_one st9 rfl) (eqv_str 18 Try.underlying9) eqf_nil)))), ?_⟩
  obtain ⟨a0, a1, a2, a3⟩ := a
  obtain ⟨b0, b1, b2, b3⟩ := b
  simp
theorem beq167 (a b : D.Entry) (xo yo : Operand) : ∃ q, abop Try.prog .eql 167 xo yo (.agg #[Value.int .i64 a.Player, Value.int .i64 a.Issue, Value.int .i64 a.Tick, Value.string a.Fill]) (.agg #[Value.int .i64 b.Player, Value.int .i64 b.Issue, Value.int .i64 b.Tick, Value.string b.Fill]) = some (.bool q) ∧ (q = true ↔ a = b) := by
  obtain ⟨q, h1, h2⟩ := eq167 a b
  exact ⟨q, abop_eql (by simp [closedV, closed1]) (by simp [closedV, closed1]) (by kernel_rfl) h1, h2⟩
theorem bne167 (a b : D.Entry) (xo yo : Operand) : ∃ q, abop Try.prog .neq 167 xo yo (.agg #[Value.int .i64 a.Player, Value.int .i64 a.Issue, Value.int .i64 a.Tick, Value.string a.Fill]) (.agg #[Value.int .i64 b.Player, Value.int .i64 b.Issue, Value.int .i64 b.Tick, Value.string b.Fill]) = some (.bool (!q)) ∧ (q = true ↔ a = b) := by
  obtain ⟨q, h1, h2⟩ := eq167 a b
  exact ⟨q, abop_neq (by simp [closedV, closed1]) (by simp [closedV, closed1]) (by kernel_rfl) h1, h2⟩
theorem eq182 (a b : D.Step) : ∃ q, eqv Try.prog 20 182 (.agg #[Value.int .i64 a.Kind, Value.string a.Word, Value.int .i64 a.A, Value.int .i64 a.B]) (.agg #[Value.int .i64 b.Kind, Value.string b.Word, Value.int .i64 b.A, Value.int .i64 b.B]) = some q ∧ (q = true ↔ a = b) := by
  refine ⟨_, eqv_struct 19 Try.underlying182 rfl (by kernel_rfl) (eqf_cons rfl (apart_one st3 rfl) (apart_one st3 rfl) (eqv_int 18 Try.underlying3) (eqf_cons rfl (apart_one st9 rfl) (apart_one st9 rfl) (eqv_str 18 Try.underlying9) (eqf_cons rfl (apart_one st3 rfl) (apart_one st3 rfl) (eqv_int 18 Try.underlying3) (eqf_cons rfl (apart_one st3 rfl) (apart_one st3 rfl) (eqv_int 18 Try.underlying3) eqf_nil)))), ?_⟩
  obtain ⟨a0, a1, a2, a3⟩ := a
  obtain ⟨b0, b1, b2, b3⟩ := b
  simp
theorem beq182 (a b : D.Step) (xo yo : Operand) : ∃ q, abop Try.prog .eql 182 xo yo (.agg #[Value.int .i64 a.Kind, Value.string a.Word, Value.int .i64 a.A, Value.int .i64 a.B]) (.agg #[Value.int .i64 b.Kind, Value.string b.Word, Value.int .i64 b.A, Value.int .i64 b.B]) = some (.bool q) ∧ (q = true ↔ a = b) := by
  obtain ⟨q, h1, h2⟩ := eq182 a b
  exact ⟨q, abop_eql (by simp [closedV, closed1]) (by simp [closedV, closed1]) (by kernel_rfl) h1, h2⟩
theorem bne182 (a b : D.Step) (xo yo : Operand) : ∃ q, abop Try.prog .neq 182 xo yo (.agg #[Value.int .i64 a.Kind, Value.string a.Word, Value.int .i64 a.A, Value.int .i64 a.B]) (.agg #[Value.int .i64 b.Kind, Value.string b.Word, Value.int .i64 b.A, Value.int .i64 b.B]) = some (.bool (!q)) ∧ (q = true ↔ a = b) := by
  obtain ⟨q, h1, h2⟩ := eq182 a b
  exact ⟨q, abop_neq (by simp [closedV, closed1]) (by simp [closedV, closed1]) (by kernel_rfl) h1, h2⟩
theorem follows : Try.prog.follows .mixedOrders = true := by kernel_rfl
theorem plainProg : Plain Try.prog := by
  unfold Plain
  kernel_rfl
end Go.Proofs.Ytfdefabncdddkaa.AE
