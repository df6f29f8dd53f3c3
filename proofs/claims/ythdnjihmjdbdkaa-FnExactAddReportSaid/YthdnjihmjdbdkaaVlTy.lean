/- The plain types of the program as trees. Conditions: none. -/
import Derived.Test.YthdnjihmjdbdkaaVlMap
import Derived.Test.YthdnjihmjdbdkaaAeTy
namespace Go.Proofs.Ythdnjihmjdbdkaa.AE
open Go Go.RowKit
set_option linter.unusedVariables false
set_option linter.unusedSimpArgs false
noncomputable instance : DecidableEq D.Report := Classical.typeDecidableEq _
def eReport (m : Bool) (x : D.Report) : List T := [.int .i64 x.Tester, .int .i64 x.Slot, .int .i64 x.Kind, .str x.Word]
theorem okeReport : EncOk eReport 4 := ⟨fun _ _ => rfl, fun x => ball_cons (.int _ _) (ball_cons (.int _ _) (ball_cons (.int _ _) (ball_cons (.str _) (ball_nil)))), fun m x => by simp only [eReport, fzL, AE.fz], fun m x => ball_cons rfl (ball_cons rfl (ball_cons rfl (ball_cons rfl (ball_nil)))), fun x => ball_cons rfl (ball_cons rfl (ball_cons rfl (ball_cons rfl (ball_nil))))⟩
def zReport (x : D.Report) : Nat := ByteArray.size x.Word
theorem flReport : FlatE eReport := fun _ _ => rfl
theorem rkReport : RK kReport eReport := rkIso (rkPair rkInt (rkPair rkInt (rkPair rkInt rkStr))) (fun _ => rfl)
theorem svReport (m : Bool) (x : D.Report) : SvL (eReport m x) [Value.int .i64 x.Tester, Value.int .i64 x.Slot, Value.int .i64 x.Kind, Value.string x.Word] := .cons (.int _ _) (.cons (.int _ _) (.cons (.int _ _) (.cons (.str _) (.nil))))
noncomputable instance : DecidableEq D.Grid := Classical.typeDecidableEq _
def eGrid (m : Bool) (x : D.Grid) : List T := [.int .i64 x.Rows, .int .i64 x.Cols, .str x.Cells]
theorem okeGrid : EncOk eGrid 3 := ⟨fun _ _ => rfl, fun x => ball_cons (.int _ _) (ball_cons (.int _ _) (ball_cons (.str _) (ball_nil))), fun m x => by simp only [eGrid, fzL, AE.fz], fun m x => ball_cons rfl (ball_cons rfl (ball_cons rfl (ball_nil))), fun x => ball_cons rfl (ball_cons rfl (ball_cons rfl (ball_nil)))⟩
def zGrid (x : D.Grid) : Nat := ByteArray.size x.Cells
theorem flGrid : FlatE eGrid := fun _ _ => rfl
theorem rkGrid : RK kGrid eGrid := rkIso (rkPair rkInt (rkPair rkInt rkStr)) (fun _ => rfl)
theorem svGrid (m : Bool) (x : D.Grid) : SvL (eGrid m x) [Value.int .i64 x.Rows, Value.int .i64 x.Cols, Value.string x.Cells] := .cons (.int _ _) (.cons (.int _ _) (.cons (.str _) (.nil)))
noncomputable instance : DecidableEq D.Step := Classical.typeDecidableEq _
def eStep (m : Bool) (x : D.Step) : List T := [.int .i64 x.Kind, .str x.Word, .int .i64 x.A, .int .i64 x.B]
theorem okeStep : EncOk eStep 4 := ⟨fun _ _ => rfl, fun x => ball_cons (.int _ _) (ball_cons (.str _) (ball_cons (.int _ _) (ball_cons (.int _ _) (ball_nil)))), fun m x => by simp only [eStep, fzL, AE.fz], fun m x => ball_cons rfl (ball_cons rfl (ball_cons rfl (ball_cons rfl (ball_nil)))), fun x => ball_cons rfl (ball_cons rfl (ball_cons rfl (ball_cons rfl (ball_nil))))⟩
def zStep (x : D.Step) : Nat := ByteArray.size x.Word
theorem flStep : FlatE eStep := fun _ _ => rfl
theorem rkStep : RK kStep eStep := rkIso (rkPair rkInt (rkPair rkStr (rkPair rkInt rkInt))) (fun _ => rfl)
theorem svStep (m : Bool) (x : D.Step) : SvL (eStep m x) [Value.int .i64 x.Kind, Value.string x.Word, Value.int .i64 x.A, Value.int .i64 x.B] := .cons (.int _ _) (.cons (.str _) (.cons (.int _ _) (.cons (.int _ _) (.nil))))
noncomputable instance : DecidableEq D.Clue := Classical.typeDecidableEq _
def eClue (m : Bool) (x : D.Clue) : List T := [.int .i64 x.Sense, .sl m 4 (x.Play.map (eStep m))]
theorem okeClue : EncOk eClue 2 := ⟨fun _ _ => rfl, fun x => ball_cons (.int _ _) (ball_cons (.sl _ _ (okeStep.cleanMap _)) (ball_nil)), fun m x => by simp only [eClue, fzL, AE.fz, okeStep.fzMap], fun m x => ball_cons rfl (ball_cons rfl (ball_nil)), fun x => ball_cons rfl (ball_cons rfl (ball_nil))⟩
def zClue (x : D.Clue) : Nat := (zL zStep) x.Play
theorem rkClue : RK kClue eClue := rkIso (rkPair rkInt (rkSl rkStep okeStep rfl)) (fun _ => rfl)
noncomputable instance : DecidableEq D.Draft := Classical.typeDecidableEq _
def eDraft (m : Bool) (x : D.Draft) : List T := [.int .i64 x.Grid.Rows, .int .i64 x.Grid.Cols, .str x.Grid.Cells, .str x.Fill, .sl m 2 (x.Clues.map (eClue m)), .int .i64 x.Version]
theorem okeDraft : EncOk eDraft 6 := ⟨fun _ _ => rfl, fun x => ball_cons (.int _ _) (ball_cons (.int _ _) (ball_cons (.str _) (ball_cons (.str _) (ball_cons (.sl _ _ (okeClue.cleanMap _)) (ball_cons (.int _ _) (ball_nil)))))), fun m x => by simp only [eDraft, fzL, AE.fz, okeClue.fzMap], fun m x => ball_cons rfl (ball_cons rfl (ball_cons rfl (ball_cons rfl (ball_cons rfl (ball_cons rfl (ball_nil)))))), fun x => ball_cons rfl (ball_cons rfl (ball_cons rfl (ball_cons rfl (ball_cons rfl (ball_cons rfl (ball_nil))))))⟩
def zDraft (x : D.Draft) : Nat := zGrid x.Grid + ByteArray.size x.Fill + (zL zClue) x.Clues
theorem rkDraft : RK kDraft eDraft := rkIso (rkPair rkGrid (rkPair rkStr (rkPair (rkSl rkClue okeClue rfl) rkInt))) (fun _ => rfl)
noncomputable instance : DecidableEq D.Puzzle := Classical.typeDecidableEq _
def ePuzzle (m : Bool) (x : D.Puzzle) : List T := [.int .i64 x.Grid.Rows, .int .i64 x.Grid.Cols, .str x.Grid.Cells, .sl m 2 (x.Clues.map (eClue m)), .sl m 1 (x.Seals.map (eInt m)), .int .i64 x.Salt]
theorem okePuzzle : EncOk ePuzzle 6 := ⟨fun _ _ => rfl, fun x => ball_cons (.int _ _) (ball_cons (.int _ _) (ball_cons (.str _) (ball_cons (.sl _ _ (okeClue.cleanMap _)) (ball_cons (.sl _ _ (okInt.cleanMap _)) (ball_cons (.int _ _) (ball_nil)))))), fun m x => by simp only [ePuzzle, fzL, AE.fz, okInt.fzMap, okeClue.fzMap], fun m x => ball_cons rfl (ball_cons rfl (ball_cons rfl (ball_cons rfl (ball_cons rfl (ball_cons rfl (ball_nil)))))), fun x => ball_cons rfl (ball_cons rfl (ball_cons rfl (ball_cons rfl (ball_cons rfl (ball_cons rfl (ball_nil))))))⟩
def zPuzzle (x : D.Puzzle) : Nat := zGrid x.Grid + (zL zClue) x.Clues + (zL zI) x.Seals
theorem rkPuzzle : RK kPuzzle ePuzzle := rkIso (rkPair rkGrid (rkPair (rkSl rkClue okeClue rfl) (rkPair (rkSl rkInt okInt rfl) rkInt))) (fun _ => rfl)
noncomputable instance : DecidableEq D.Issue := Classical.typeDecidableEq _
def eIssue (m : Bool) (x : D.Issue) : List T := [.int .i64 x.Number, .int .i64 x.Puzzle.Grid.Rows, .int .i64 x.Puzzle.Grid.Cols, .str x.Puzzle.Grid.Cells, .sl m 2 (x.Puzzle.Clues.map (eClue m)), .sl m 1 (x.Puzzle.Seals.map (eInt m)), .int .i64 x.Puzzle.Salt, .str x.Fill, .int .i64 x.Open, .int .i64 x.Close]
theorem okeIssue : EncOk eIssue 10 := ⟨fun _ _ => rfl, fun x => ball_cons (.int _ _) (ball_cons (.int _ _) (ball_cons (.int _ _) (ball_cons (.str _) (ball_cons (.sl _ _ (okeClue.cleanMap _)) (ball_cons (.sl _ _ (okInt.cleanMap _)) (ball_cons (.int _ _) (ball_cons (.str _) (ball_cons (.int _ _) (ball_cons (.int _ _) (ball_nil)))))))))), fun m x => by simp only [eIssue, fzL, AE.fz, okInt.fzMap, okeClue.fzMap], fun m x => ball_cons rfl (ball_cons rfl (ball_cons rfl (ball_cons rfl (ball_cons rfl (ball_cons rfl (ball_cons rfl (ball_cons rfl (ball_cons rfl (ball_cons rfl (ball_nil)))))))))), fun x => ball_cons rfl (ball_cons rfl (ball_cons rfl (ball_cons rfl (ball_cons rfl (ball_cons rfl (ball_cons rfl (ball_cons rfl (ball_cons rfl (ball_cons rfl (ball_nil))))))))))⟩
def zIssue (x : D.Issue) : Nat := zPuzzle x.Puzzle + ByteArray.size x.Fill
theorem rkIssue : RK kIssue eIssue := rkIso (rkPair rkInt (rkPair rkPuzzle (rkPair rkStr (rkPair rkInt rkInt)))) (fun _ => rfl)
noncomputable instance : DecidableEq D.Note := Classical.typeDecidableEq _
def eNote (m : Bool) (x : D.Note) : List T := [.int .i64 x.Cell, .str x.Letter, .int .i64 x.Tick, .int .i64 x.Who]
theorem okeNote : EncOk eNote 4 := ⟨fun _ _ => rfl, fun x => ball_cons (.int _ _) (ball_cons (.str _) (ball_cons (.int _ _) (ball_cons (.int _ _) (ball_nil)))), fun m x => by simp only [eNote, fzL, AE.fz], fun m x => ball_cons rfl (ball_cons rfl (ball_cons rfl (ball_cons rfl (ball_nil)))), fun x => ball_cons rfl (ball_cons rfl (ball_cons rfl (ball_cons rfl (ball_nil))))⟩
def zNote (x : D.Note) : Nat := ByteArray.size x.Letter
theorem flNote : FlatE eNote := fun _ _ => rfl
theorem rkNote : RK kNote eNote := rkIso (rkPair rkInt (rkPair rkStr (rkPair rkInt rkInt))) (fun _ => rfl)
theorem svNote (m : Bool) (x : D.Note) : SvL (eNote m x) [Value.int .i64 x.Cell, Value.string x.Letter, Value.int .i64 x.Tick, Value.int .i64 x.Who] := .cons (.int _ _) (.cons (.str _) (.cons (.int _ _) (.cons (.int _ _) (.nil))))
noncomputable instance : DecidableEq D.Correction := Classical.typeDecidableEq _
def eCorrection (m : Bool) (x : D.Correction) : List T := [.int .i64 x.Issue, .int .i64 x.Slot, .int .i64 x.Clue.Sense, .sl m 4 (x.Clue.Play.map (eStep m)), .int .i64 x.Tick]
theorem okeCorrection : EncOk eCorrection 5 := ⟨fun _ _ => rfl, fun x => ball_cons (.int _ _) (ball_cons (.int _ _) (ball_cons (.int _ _) (ball_cons (.sl _ _ (okeStep.cleanMap _)) (ball_cons (.int _ _) (ball_nil))))), fun m x => by simp only [eCorrection, fzL, AE.fz, okeStep.fzMap], fun m x => ball_cons rfl (ball_cons rfl (ball_cons rfl (ball_cons rfl (ball_cons rfl (ball_nil))))), fun x => ball_cons rfl (ball_cons rfl (ball_cons rfl (ball_cons rfl (ball_cons rfl (ball_nil)))))⟩
def zCorrection (x : D.Correction) : Nat := zClue x.Clue
theorem rkCorrection : RK kCorrection eCorrection := rkIso (rkPair rkInt (rkPair rkInt (rkPair rkClue rkInt))) (fun _ => rfl)
noncomputable instance : DecidableEq D.Used := Classical.typeDecidableEq _
def eUsed (m : Bool) (x : D.Used) : List T := [.str x.Word, .int .i64 x.Issue]
theorem okeUsed : EncOk eUsed 2 := ⟨fun _ _ => rfl, fun x => ball_cons (.str _) (ball_cons (.int _ _) (ball_nil)), fun m x => by simp only [eUsed, fzL, AE.fz], fun m x => ball_cons rfl (ball_cons rfl (ball_nil)), fun x => ball_cons rfl (ball_cons rfl (ball_nil))⟩
def zUsed (x : D.Used) : Nat := ByteArray.size x.Word
theorem flUsed : FlatE eUsed := fun _ _ => rfl
theorem rkUsed : RK kUsed eUsed := rkIso (rkPair rkStr rkInt) (fun _ => rfl)
theorem svUsed (m : Bool) (x : D.Used) : SvL (eUsed m x) [Value.string x.Word, Value.int .i64 x.Issue] := .cons (.str _) (.cons (.int _ _) (.nil))
theorem B.eql44 {call : CallT} {E : Env} {d : Option Tmp} {ty xt : TypeId} {ps : String} {af : Array Edge} {g : Option (Nat × Bool)} {x y : Operand} {a b : D.Report} {m m' : Bool} (hx : VEv E x (.agg (eReport m a))) (hy : VEv E y (.agg (eReport m' b))) : OF call Try.prog E ⟨d, .binOp .eql 44 x y xt, ty, ps, af, g⟩ (.bool (decide (a = b))) := by
  obtain ⟨q, h1, h2⟩ := beq44 a b x y
  have h3 : q = decide (a = b) := by
    by_cases h : a = b
    · rw [h2.2 h, decide_eq_true h]
    · rw [decide_eq_false h]
      cases q
      · rfl
      · exact absurd (h2.1 rfl) h
  exact h3 ▸ OF.binA hx hy (svReport _ a) (svReport _ b) h1 (.bool _)
theorem B.neq44 {call : CallT} {E : Env} {d : Option Tmp} {ty xt : TypeId} {ps : String} {af : Array Edge} {g : Option (Nat × Bool)} {x y : Operand} {a b : D.Report} {m m' : Bool} (hx : VEv E x (.agg (eReport m a))) (hy : VEv E y (.agg (eReport m' b))) : OF call Try.prog E ⟨d, .binOp .neq 44 x y xt, ty, ps, af, g⟩ (.bool (!decide (a = b))) := by
  obtain ⟨q, h1, h2⟩ := bne44 a b x y
  have h3 : q = decide (a = b) := by
    by_cases h : a = b
    · rw [h2.2 h, decide_eq_true h]
    · rw [decide_eq_false h]
      cases q
      · rfl
      · exact absurd (h2.1 rfl) h
  exact h3 ▸ OF.binA hx hy (svReport _ a) (svReport _ b) h1 (.bool _)
theorem B.eql48 {call : CallT} {E : Env} {d : Option Tmp} {ty xt : TypeId} {ps : String} {af : Array Edge} {g : Option (Nat × Bool)} {x y : Operand} {a b : D.Report} {m m' : Bool} (hx : VEv E x (.agg (eReport m a))) (hy : VEv E y (.agg (eReport m' b))) : OF call Try.prog E ⟨d, .binOp .eql 48 x y xt, ty, ps, af, g⟩ (.bool (decide (a = b))) := by
  obtain ⟨q, h1, h2⟩ := beq48 a b x y
  have h3 : q = decide (a = b) := by
    by_cases h : a = b
    · rw [h2.2 h, decide_eq_true h]
    · rw [decide_eq_false h]
      cases q
      · rfl
      · exact absurd (h2.1 rfl) h
  exact h3 ▸ OF.binA hx hy (svReport _ a) (svReport _ b) h1 (.bool _)
theorem B.neq48 {call : CallT} {E : Env} {d : Option Tmp} {ty xt : TypeId} {ps : String} {af : Array Edge} {g : Option (Nat × Bool)} {x y : Operand} {a b : D.Report} {m m' : Bool} (hx : VEv E x (.agg (eReport m a))) (hy : VEv E y (.agg (eReport m' b))) : OF call Try.prog E ⟨d, .binOp .neq 48 x y xt, ty, ps, af, g⟩ (.bool (!decide (a = b))) := by
  obtain ⟨q, h1, h2⟩ := bne48 a b x y
  have h3 : q = decide (a = b) := by
    by_cases h : a = b
    · rw [h2.2 h, decide_eq_true h]
    · rw [decide_eq_false h]
      cases q
      · rfl
      · exact absurd (h2.1 rfl) h
  exact h3 ▸ OF.binA hx hy (svReport _ a) (svReport _ b) h1 (.bool _)
theorem B.eql53 {call : CallT} {E : Env} {d : Option Tmp} {ty xt : TypeId} {ps : String} {af : Array Edge} {g : Option (Nat × Bool)} {x y : Operand} {a b : D.Grid} {m m' : Bool} (hx : VEv E x (.agg (eGrid m a))) (hy : VEv E y (.agg (eGrid m' b))) : OF call Try.prog E ⟨d, .binOp .eql 53 x y xt, ty, ps, af, g⟩ (.bool (decide (a = b))) := by
  obtain ⟨q, h1, h2⟩ := beq53 a b x y
  have h3 : q = decide (a = b) := by
    by_cases h : a = b
    · rw [h2.2 h, decide_eq_true h]
    · rw [decide_eq_false h]
      cases q
      · rfl
      · exact absurd (h2.1 rfl) h
  exact h3 ▸ OF.binA hx hy (svGrid _ a) (svGrid _ b) h1 (.bool _)
theorem B.neq53 {call : CallT} {E : Env} {d : Option Tmp} {ty xt : TypeId} {ps : String} {af : Array Edge} {g : Option (Nat × Bool)} {x y : Operand} {a b : D.Grid} {m m' : Bool} (hx : VEv E x (.agg (eGrid m a))) (hy : VEv E y (.agg (eGrid m' b))) : OF call Try.prog E ⟨d, .binOp .neq 53 x y xt, ty, ps, af, g⟩ (.bool (!decide (a = b))) := by
  obtain ⟨q, h1, h2⟩ := bne53 a b x y
  have h3 : q = decide (a = b) := by
    by_cases h : a = b
    · rw [h2.2 h, decide_eq_true h]
    · rw [decide_eq_false h]
      cases q
      · rfl
      · exact absurd (h2.1 rfl) h
  exact h3 ▸ OF.binA hx hy (svGrid _ a) (svGrid _ b) h1 (.bool _)
theorem B.eql59 {call : CallT} {E : Env} {d : Option Tmp} {ty xt : TypeId} {ps : String} {af : Array Edge} {g : Option (Nat × Bool)} {x y : Operand} {a b : D.Grid} {m m' : Bool} (hx : VEv E x (.agg (eGrid m a))) (hy : VEv E y (.agg (eGrid m' b))) : OF call Try.prog E ⟨d, .binOp .eql 59 x y xt, ty, ps, af, g⟩ (.bool (decide (a = b))) := by
  obtain ⟨q, h1, h2⟩ := beq59 a b x y
  have h3 : q = decide (a = b) := by
    by_cases h : a = b
    · rw [h2.2 h, decide_eq_true h]
    · rw [decide_eq_false h]
      cases q
      · rfl
      · exact absurd (h2.1 rfl) h
  exact h3 ▸ OF.binA hx hy (svGrid _ a) (svGrid _ b) h1 (.bool _)
theorem B.neq59 {call : CallT} {E : Env} {d : Option Tmp} {ty xt : TypeId} {ps : String} {af : Array Edge} {g : Option (Nat × Bool)} {x y : Operand} {a b : D.Grid} {m m' : Bool} (hx : VEv E x (.agg (eGrid m a))) (hy : VEv E y (.agg (eGrid m' b))) : OF call Try.prog E ⟨d, .binOp .neq 59 x y xt, ty, ps, af, g⟩ (.bool (!decide (a = b))) := by
  obtain ⟨q, h1, h2⟩ := bne59 a b x y
  have h3 : q = decide (a = b) := by
    by_cases h : a = b
    · rw [h2.2 h, decide_eq_true h]
    · rw [decide_eq_false h]
      cases q
      · rfl
      · exact absurd (h2.1 rfl) h
  exact h3 ▸ OF.binA hx hy (svGrid _ a) (svGrid _ b) h1 (.bool _)
theorem B.eql89 {call : CallT} {E : Env} {d : Option Tmp} {ty xt : TypeId} {ps : String} {af : Array Edge} {g : Option (Nat × Bool)} {x y : Operand} {a b : D.Note} {m m' : Bool} (hx : VEv E x (.agg (eNote m a))) (hy : VEv E y (.agg (eNote m' b))) : OF call Try.prog E ⟨d, .binOp .eql 89 x y xt, ty, ps, af, g⟩ (.bool (decide (a = b))) := by
  obtain ⟨q, h1, h2⟩ := beq89 a b x y
  have h3 : q = decide (a = b) := by
    by_cases h : a = b
    · rw [h2.2 h, decide_eq_true h]
    · rw [decide_eq_false h]
      cases q
      · rfl
      · exact absurd (h2.1 rfl) h
  exact h3 ▸ OF.binA hx hy (svNote _ a) (svNote _ b) h1 (.bool _)
theorem B.neq89 {call : CallT} {E : Env} {d : Option Tmp} {ty xt : TypeId} {ps : String} {af : Array Edge} {g : Option (Nat × Bool)} {x y : Operand} {a b : D.Note} {m m' : Bool} (hx : VEv E x (.agg (eNote m a))) (hy : VEv E y (.agg (eNote m' b))) : OF call Try.prog E ⟨d, .binOp .neq 89 x y xt, ty, ps, af, g⟩ (.bool (!decide (a = b))) := by
  obtain ⟨q, h1, h2⟩ := bne89 a b x y
  have h3 : q = decide (a = b) := by
    by_cases h : a = b
    · rw [h2.2 h, decide_eq_true h]
    · rw [decide_eq_false h]
      cases q
      · rfl
      · exact absurd (h2.1 rfl) h
  exact h3 ▸ OF.binA hx hy (svNote _ a) (svNote _ b) h1 (.bool _)
theorem B.eql95 {call : CallT} {E : Env} {d : Option Tmp} {ty xt : TypeId} {ps : String} {af : Array Edge} {g : Option (Nat × Bool)} {x y : Operand} {a b : D.Note} {m m' : Bool} (hx : VEv E x (.agg (eNote m a))) (hy : VEv E y (.agg (eNote m' b))) : OF call Try.prog E ⟨d, .binOp .eql 95 x y xt, ty, ps, af, g⟩ (.bool (decide (a = b))) := by
  obtain ⟨q, h1, h2⟩ := beq95 a b x y
  have h3 : q = decide (a = b) := by
    by_cases h : a = b
    · rw [h2.2 h, decide_eq_true h]
    · rw [decide_eq_false h]
      cases q
      · rfl
      · exact absurd (h2.1 rfl) h
  exact h3 ▸ OF.binA hx hy (svNote _ a) (svNote _ b) h1 (.bool _)
theorem B.neq95 {call : CallT} {E : Env} {d : Option Tmp} {ty xt : TypeId} {ps : String} {af : Array Edge} {g : Option (Nat × Bool)} {x y : Operand} {a b : D.Note} {m m' : Bool} (hx : VEv E x (.agg (eNote m a))) (hy : VEv E y (.agg (eNote m' b))) : OF call Try.prog E ⟨d, .binOp .neq 95 x y xt, ty, ps, af, g⟩ (.bool (!decide (a = b))) := by
  obtain ⟨q, h1, h2⟩ := bne95 a b x y
  have h3 : q = decide (a = b) := by
    by_cases h : a = b
    · rw [h2.2 h, decide_eq_true h]
    · rw [decide_eq_false h]
      cases q
      · rfl
      · exact absurd (h2.1 rfl) h
  exact h3 ▸ OF.binA hx hy (svNote _ a) (svNote _ b) h1 (.bool _)
theorem B.eql125 {call : CallT} {E : Env} {d : Option Tmp} {ty xt : TypeId} {ps : String} {af : Array Edge} {g : Option (Nat × Bool)} {x y : Operand} {a b : D.Used} {m m' : Bool} (hx : VEv E x (.agg (eUsed m a))) (hy : VEv E y (.agg (eUsed m' b))) : OF call Try.prog E ⟨d, .binOp .eql 125 x y xt, ty, ps, af, g⟩ (.bool (decide (a = b))) := by
  obtain ⟨q, h1, h2⟩ := beq125 a b x y
  have h3 : q = decide (a = b) := by
    by_cases h : a = b
    · rw [h2.2 h, decide_eq_true h]
    · rw [decide_eq_false h]
      cases q
      · rfl
      · exact absurd (h2.1 rfl) h
  exact h3 ▸ OF.binA hx hy (svUsed _ a) (svUsed _ b) h1 (.bool _)
theorem B.neq125 {call : CallT} {E : Env} {d : Option Tmp} {ty xt : TypeId} {ps : String} {af : Array Edge} {g : Option (Nat × Bool)} {x y : Operand} {a b : D.Used} {m m' : Bool} (hx : VEv E x (.agg (eUsed m a))) (hy : VEv E y (.agg (eUsed m' b))) : OF call Try.prog E ⟨d, .binOp .neq 125 x y xt, ty, ps, af, g⟩ (.bool (!decide (a = b))) := by
  obtain ⟨q, h1, h2⟩ := bne125 a b x y
  have h3 : q = decide (a = b) := by
    by_cases h : a = b
    · rw [h2.2 h, decide_eq_true h]
    · rw [decide_eq_false h]
      cases q
      · rfl
      · exact absurd (h2.1 rfl) h
  exact h3 ▸ OF.binA hx hy (svUsed _ a) (svUsed _ b) h1 (.bool _)
theorem B.eql127 {call : CallT} {E : Env} {d : Option Tmp} {ty xt : TypeId} {ps : String} {af : Array Edge} {g : Option (Nat × Bool)} {x y : Operand} {a b : D.Used} {m m' : Bool} (hx : VEv E x (.agg (eUsed m a))) (hy : VEv E y (.agg (eUsed m' b))) : OF call Try.prog E ⟨d, .binOp .eql 127 x y xt, ty, ps, af, g⟩ (.bool (decide (a = b))) := by
  obtain ⟨q, h1, h2⟩ := beq127 a b x y
  have h3 : q = decide (a = b) := by
    by_cases h : a = b
    · rw [h2.2 h, decide_eq_true h]
    · rw [decide_eq_false h]
      cases q
      · rfl
      · exact absurd (h2.1 rfl) h
  exact h3 ▸ OF.binA hx hy (svUsed _ a) (svUsed _ b) h1 (.bool _)
theorem B.neq127 {call : CallT} {E : Env} {d : Option Tmp} {ty xt : TypeId} {ps : String} {af : Array Edge} {g : Option (Nat × Bool)} {x y : Operand} {a b : D.Used} {m m' : Bool} (hx : VEv E x (.agg (eUsed m a))) (hy : VEv E y (.agg (eUsed m' b))) : OF call Try.prog E ⟨d, .binOp .neq 127 x y xt, ty, ps, af, g⟩ (.bool (!decide (a = b))) := by
  obtain ⟨q, h1, h2⟩ := bne127 a b x y
  have h3 : q = decide (a = b) := by
    by_cases h : a = b
    · rw [h2.2 h, decide_eq_true h]
    · rw [decide_eq_false h]
      cases q
      · rfl
      · exact absurd (h2.1 rfl) h
  exact h3 ▸ OF.binA hx hy (svUsed _ a) (svUsed _ b) h1 (.bool _)
theorem B.eql166 {call : CallT} {E : Env} {d : Option Tmp} {ty xt : TypeId} {ps : String} {af : Array Edge} {g : Option (Nat × Bool)} {x y : Operand} {a b : D.Step} {m m' : Bool} (hx : VEv E x (.agg (eStep m a))) (hy : VEv E y (.agg (eStep m' b))) : OF call Try.prog E ⟨d, .binOp .eql 166 x y xt, ty, ps, af, g⟩ (.bool (decide (a = b))) := by
  obtain ⟨q, h1, h2⟩ := beq166 a b x y
  have h3 : q = decide (a = b) := by
    by_cases h : a = b
    · rw [h2.2 h, decide_eq_true h]
    · rw [decide_eq_false h]
      cases q
      · rfl
      · exact absurd (h2.1 rfl) h
  exact h3 ▸ OF.binA hx hy (svStep _ a) (svStep _ b) h1 (.bool _)
theorem B.neq166 {call : CallT} {E : Env} {d : Option Tmp} {ty xt : TypeId} {ps : String} {af : Array Edge} {g : Option (Nat × Bool)} {x y : Operand} {a b : D.Step} {m m' : Bool} (hx : VEv E x (.agg (eStep m a))) (hy : VEv E y (.agg (eStep m' b))) : OF call Try.prog E ⟨d, .binOp .neq 166 x y xt, ty, ps, af, g⟩ (.bool (!decide (a = b))) := by
  obtain ⟨q, h1, h2⟩ := bne166 a b x y
  have h3 : q = decide (a = b) := by
    by_cases h : a = b
    · rw [h2.2 h, decide_eq_true h]
    · rw [decide_eq_false h]
      cases q
      · rfl
      · exact absurd (h2.1 rfl) h
  exact h3 ▸ OF.binA hx hy (svStep _ a) (svStep _ b) h1 (.bool _)
theorem B.eql182 {call : CallT} {E : Env} {d : Option Tmp} {ty xt : TypeId} {ps : String} {af : Array Edge} {g : Option (Nat × Bool)} {x y : Operand} {a b : D.Step} {m m' : Bool} (hx : VEv E x (.agg (eStep m a))) (hy : VEv E y (.agg (eStep m' b))) : OF call Try.prog E ⟨d, .binOp .eql 182 x y xt, ty, ps, af, g⟩ (.bool (decide (a = b))) := by
  obtain ⟨q, h1, h2⟩ := beq182 a b x y
  have h3 : q = decide (a = b) := by
    by_cases h : a = b
    · rw [h2.2 h, decide_eq_true h]
    · rw [decide_eq_false h]
      cases q
      · rfl
      · exact absurd (h2.1 rfl) h
  exact h3 ▸ OF.binA hx hy (svStep _ a) (svStep _ b) h1 (.bool _)
theorem B.neq182 {call : CallT} {E : Env} {d : Option Tmp} {ty xt : TypeId} {ps : String} {af : Array Edge} {g : Option (Nat × Bool)} {x y : Operand} {a b : D.Step} {m m' : Bool} (hx : VEv E x (.agg (eStep m a))) (hy : VEv E y (.agg (eStep m' b))) : OF call Try.prog E ⟨d, .binOp .neq 182 x y xt, ty, ps, af, g⟩ (.bool (!decide (a = b))) := by
  obtain ⟨q, h1, h2⟩ := bne182 a b x y
  have h3 : q = decide (a = b) := by
    by_cases h : a = b
    · rw [h2.2 h, decide_eq_true h]
    · rw [decide_eq_false h]
      cases q
      · rfl
      · exact absurd (h2.1 rfl) h
  exact h3 ▸ OF.binA hx hy (svStep _ a) (svStep _ b) h1 (.bool _)
end Go.Proofs.Ythdnjihmjdbdkaa.AE
