/- The plain types of the program as trees. Conditions: none. -/
import Derived.Test.YtfdefabncdddkaaVlLib
import Derived.Test.YtfdefabncdddkaaAeTy
namespace Go.Proofs.Ytfdefabncdddkaa.AE
open Go Go.RowKit
set_option linter.unusedVariables false
set_option linter.unusedSimpArgs false
noncomputable instance : DecidableEq D.Grid := Classical.typeDecidableEq _
def eGrid (m : Bool) (x : D.Grid) : List T := [.int .i64 x.Rows, .int .i64 x.Cols, .str x.Cells]
theorem okeGrid : EncOk eGrid 3 := ⟨fun _ _ => rfl, fun x => ball_cons (.int _ _) (ball_cons (.int _ _) (ball_cons (.str _) (ball_nil))), fun m x => by simp only [eGrid, fzL, AE.fz], fun m x => ball_cons rfl (ball_cons rfl (ball_cons rfl (ball_nil))), fun x => ball_cons rfl (ball_cons rfl (ball_cons rfl (ball_nil)))⟩
def zGrid (x : D.Grid) : Nat := ByteArray.size x.Cells
theorem flGrid : FlatE eGrid := fun _ _ => rfl
theorem rkGrid : RK kGrid eGrid := rkIso (rkPair rkInt (rkPair rkInt rkStr)) (fun _ => rfl)
theorem svGrid (m : Bool) (x : D.Grid) : SvL (eGrid m x) [Value.int .i64 x.Rows, Value.int .i64 x.Cols, Value.string x.Cells] := .cons (.int _ _) (.cons (.int _ _) (.cons (.str _) (.nil)))
noncomputable instance : DecidableEq D.Step := Classical.typeDecidableEq _
def eStep (m : Bool) (x : D.Step) : List T := [.int .i64 x.Kind, .str x.Word, .int .i64 x.A, .int .i64 x.B]
theorem okeStep : EncOk eStep 4 := ⟨fun _ _ => rfl, fun x => ball_cons (.int _ _) (ball_cons (.str _) (ball_cons (.int _ _) (ball_cons (.int _ _) (ball_nil)))), fun m x => by simp only [eStep, fzL, AE.fz], fun m x => ball_cons rfl (ball_cons rfl (ball_cons rfl (ball_cons rfl (ball_nil)))), fun x => ball_cons rfl (ball_cons rfl (ball_cons rfl (ball_cons rfl (ball_nil))))⟩
def zStep (x : D.Step) : Nat := ByteArray.size x.Word
theorem flStep : FlatE eStep := fun _ _ => rfl
theorem rkStep : RK kStep eStep := rkIso (rkPair rkInt (rkPair rkStr (rkPair rkInt rkInt))) (fun _ => rfl)
theorem svStep (m : Bool) (x : D.Step) : SvL (eStep m x) [Value.int .i64 x.Kind, Value.string x.Word, Value.int .i64 x.A, Value.int .i64 x.B] := .cons (.int _ _) (.cons (.str _) (.cons (.int _ _) (.cons (.int _ _) (.nil))))
noncomputable instance : DecidableEq D.Clue := Classical.typeDecidableEq _
def eClue (m : Bool) (x : D.Clue) : List T := [.int .i64 x.Sense, .sl m 4 (x.Play.map (eStep m))]
theorem okeClue : EncOk eClue 2 := ⟨fun _ _ => rfl, fun x => ball_cons (.int _ _) (ball_cons (.sl _ _ (okeStep.cleanMap _)) (ball_nil)), fun m x => by simp only [eClue, fzL, AE.fz, okeStep.fzMap], fun m x => ball_cons rfl (ball_cons rfl (ball_nil)), fun x => ball_cons rfl (ball_cons rfl (ball_nil))⟩
def zClue (x : D.Clue) : Nat := (zL zStep) x.Play
theorem rkClue : RK kClue eClue := rkIso (rkPair rkInt (rkSl rkStep okeStep rfl)) (fun _ => rfl)
noncomputable instance : DecidableEq D.Draft := Classical.typeDecidableEq _
def eDraft (m : Bool) (x : D.Draft) : List T := [.int .i64 x.Grid.Rows, .int .i64 x.Grid.Cols, .str x.Grid.Cells, .str x.Fill, .sl m 2 (x.Clues.map (eClue m)), .int .i64 x.Version]
theorem okeDraft : EncOk eDraft 6 := ⟨fun _ _ => rfl, fun x => ball_cons (.int _ _) (ball_cons (.int _ _) (ball_cons (.str _) (ball_cons (.str _) (ball_cons (.sl _ _ (okeClue.cleanMap _)) (ball_cons (.int _ _) (ball_nil)))))), fun m x => by simp only [eDraft, fzL, AE.fz, okeClue.fzMap], fun m x => ball_cons rfl (ball_cons rfl (ball_cons rfl (ball_cons rfl (ball_cons rfl (ball_cons rfl (ball_nil)))))), fun x => ball_cons rfl (ball_cons rfl (ball_cons rfl (ball_cons rfl (ball_cons rfl (ball_cons rfl (ball_nil))))))⟩
def zDraft (x : D.Draft) : Nat := zGrid x.Grid + ByteArray.size x.Fill + (zL zClue) x.Clues
theorem rkDraft : RK kDraft eDraft := rkIso (rkPair rkGrid (rkPair rkStr (rkPair (rkSl rkClue okeClue rfl) rkInt))) (fun _ => rfl)
noncomputable instance : DecidableEq D.Listed := Classical.typeDecidableEq _
def eListed (m : Bool) (x : D.Listed) : List T := [.str x.Word, .int .i64 x.From, .int .i64 x.Until, .int .i64 x.Score]
theorem okeListed : EncOk eListed 4 := ⟨fun _ _ => rfl, fun x => ball_cons (.str _) (ball_cons (.int _ _) (ball_cons (.int _ _) (ball_cons (.int _ _) (ball_nil)))), fun m x => by simp only [eListed, fzL, AE.fz], fun m x => ball_cons rfl (ball_cons rfl (ball_cons rfl (ball_cons rfl (ball_nil)))), fun x => ball_cons rfl (ball_cons rfl (ball_cons rfl (ball_cons rfl (ball_nil))))⟩
def zListed (x : D.Listed) : Nat := ByteArray.size x.Word
theorem flListed : FlatE eListed := fun _ _ => rfl
theorem rkListed : RK kListed eListed := rkIso (rkPair rkStr (rkPair rkInt (rkPair rkInt rkInt))) (fun _ => rfl)
theorem svListed (m : Bool) (x : D.Listed) : SvL (eListed m x) [Value.string x.Word, Value.int .i64 x.From, Value.int .i64 x.Until, Value.int .i64 x.Score] := .cons (.str _) (.cons (.int _ _) (.cons (.int _ _) (.cons (.int _ _) (.nil))))
noncomputable instance : DecidableEq D.Meaning := Classical.typeDecidableEq _
def eMeaning (m : Bool) (x : D.Meaning) : List T := [.str x.Word, .int .i64 x.Sense]
theorem okeMeaning : EncOk eMeaning 2 := ⟨fun _ _ => rfl, fun x => ball_cons (.str _) (ball_cons (.int _ _) (ball_nil)), fun m x => by simp only [eMeaning, fzL, AE.fz], fun m x => ball_cons rfl (ball_cons rfl (ball_nil)), fun x => ball_cons rfl (ball_cons rfl (ball_nil))⟩
def zMeaning (x : D.Meaning) : Nat := ByteArray.size x.Word
theorem flMeaning : FlatE eMeaning := fun _ _ => rfl
theorem rkMeaning : RK kMeaning eMeaning := rkIso (rkPair rkStr rkInt) (fun _ => rfl)
theorem svMeaning (m : Bool) (x : D.Meaning) : SvL (eMeaning m x) [Value.string x.Word, Value.int .i64 x.Sense] := .cons (.str _) (.cons (.int _ _) (.nil))
noncomputable instance : DecidableEq D.Puzzle := Classical.typeDecidableEq _
def ePuzzle (m : Bool) (x : D.Puzzle) : List T := [.int .i64 x.Grid.Rows, .int .i64 x.Grid.Cols, .str x.Grid.Cells, .sl m 2 (x.Clues.map (eClue m)), .sl m 1 (x.Seals.map (eInt m)), .int .i64 x.Salt]
theorem okePuzzle : EncOk ePuzzle 6 := ⟨fun _ _ => rfl, fun x => ball_cons (.int _ _) (ball_cons (.int _ _) (ball_cons (.str _) (ball_cons (.sl _ _ (okeClue.cleanMap _)) (ball_cons (.sl _ _ (okInt.cleanMap _)) (ball_cons (.int _ _) (ball_nil)))))), fun m x => by simp only [ePuzzle, fzL, AE.fz, okInt.fzMap, okeClue.fzMap], fun m x => ball_cons rfl (ball_cons rfl (ball_cons rfl (ball_cons rfl (ball_cons rfl (ball_cons rfl (ball_nil)))))), fun x => ball_cons rfl (ball_cons rfl (ball_cons rfl (ball_cons rfl (ball_cons rfl (ball_cons rfl (ball_nil))))))⟩
def zPuzzle (x : D.Puzzle) : Nat := zGrid x.Grid + (zL zClue) x.Clues + (zL zI) x.Seals
theorem rkPuzzle : RK kPuzzle ePuzzle := rkIso (rkPair rkGrid (rkPair (rkSl rkClue okeClue rfl) (rkPair (rkSl rkInt okInt rfl) rkInt))) (fun _ => rfl)
noncomputable instance : DecidableEq D.Issue := Classical.typeDecidableEq _
def eIssue (m : Bool) (x : D.Issue) : List T := [.int .i64 x.Number, .int .i64 x.Puzzle.Grid.Rows, .int .i64 x.Puzzle.Grid.Cols, .str x.Puzzle.Grid.Cells, .sl m 2 (x.Puzzle.Clues.map (eClue m)), .sl m 1 (x.Puzzle.Seals.map (eInt m)), .int .i64 x.Puzzle.Salt, .str x.Fill, .int .i64 x.Open, .int .i64 x.Close]
theorem okeIssue : EncOk eIssue 10 := ⟨fun _ _ => rfl, fun x => ball_cons (.int _ _) (ball_cons (.int _ _) (ball_cons (.int _ _) (ball_cons (.str _) (ball_cons (.sl _ _ (okeClue.cleanMap _)) (ball_cons (.sl _ _ (okInt.cleanMap _)) (ball_cons (.int _ _) (ball_cons (.str _) (ball_cons (.int _ _) (ball_cons (.int _ _) (ball_nil)))))))))), fun m x => by simp only [eIssue, fzL, AE.fz, okInt.fzMap, okeClue.fzMap], fun m x => ball_cons rfl (ball_cons rfl (ball_cons rfl (ball_cons rfl (ball_cons rfl (ball_cons rfl (ball_cons rfl (ball_cons rfl (ball_cons rfl (ball_cons rfl (ball_nil)))))))))), fun x => ball_cons rfl (ball_cons rfl (ball_cons rfl (ball_cons rfl (ball_cons rfl (ball_cons rfl (ball_cons rfl (ball_cons rfl (ball_cons rfl (ball_cons rfl (ball_nil))))))))))⟩
def zIssue (x : D.Issue) : Nat := zPuzzle x.Puzzle + ByteArray.size x.Fill
theorem rkIssue : RK kIssue eIssue := rkIso (rkPair rkInt (rkPair rkPuzzle (rkPair rkStr (rkPair rkInt rkInt)))) (fun _ => rfl)
noncomputable instance : DecidableEq D.Used := Classical.typeDecidableEq _
def eUsed (m : Bool) (x : D.Used) : List T := [.str x.Word, .int .i64 x.Issue]
theorem okeUsed : EncOk eUsed 2 := ⟨fun _ _ => rfl, fun x => ball_cons (.str _) (ball_cons (.int _ _) (ball_nil)), fun m x => by simp only [eUsed, fzL, AE.fz], fun m x => ball_cons rfl (ball_cons rfl (ball_nil)), fun x => ball_cons rfl (ball_cons rfl (ball_nil))⟩
def zUsed (x : D.Used) : Nat := ByteArray.size x.Word
theorem flUsed : FlatE eUsed := fun _ _ => rfl
theorem rkUsed : RK kUsed eUsed := rkIso (rkPair rkStr rkInt) (fun _ => rfl)
theorem svUsed (m : Bool) (x : D.Used) : SvL (eUsed m x) [Value.string x.Word, Value.int .i64 x.Issue] := .cons (.str _) (.cons (.int _ _) (.nil))
noncomputable instance : DecidableEq D.Correction := Classical.typeDecidableEq _
def eCorrection (m : Bool) (x : D.Correction) : List T := [.int .i64 x.Issue, .int .i64 x.Slot, .int .i64 x.Clue.Sense, .sl m 4 (x.Clue.Play.map (eStep m)), .int .i64 x.Tick]
theorem okeCorrection : EncOk eCorrection 5 := ⟨fun _ _ => rfl, fun x => ball_cons (.int _ _) (ball_cons (.int _ _) (ball_cons (.int _ _) (ball_cons (.sl _ _ (okeStep.cleanMap _)) (ball_cons (.int _ _) (ball_nil))))), fun m x => by simp only [eCorrection, fzL, AE.fz, okeStep.fzMap], fun m x => ball_cons rfl (ball_cons rfl (ball_cons rfl (ball_cons rfl (ball_cons rfl (ball_nil))))), fun x => ball_cons rfl (ball_cons rfl (ball_cons rfl (ball_cons rfl (ball_cons rfl (ball_nil)))))⟩
def zCorrection (x : D.Correction) : Nat := zClue x.Clue
theorem rkCorrection : RK kCorrection eCorrection := rkIso (rkPair rkInt (rkPair rkInt (rkPair rkClue rkInt))) (fun _ => rfl)
noncomputable instance : DecidableEq D.Entry := Classical.typeDecidableEq _
def eEntry (m : Bool) (x : D.Entry) : List T := [.int .i64 x.Player, .int .i64 x.Issue, .int .i64 x.Tick, .str x.Fill]
theorem okeEntry : EncOk eEntry 4 := ⟨fun _ _ => rfl, fun x => ball_cons (.int _ _) (ball_cons (.int _ _) (ball_cons (.int _ _) (ball_cons (.str _) (ball_nil)))), fun m x => by simp only [eEntry, fzL, AE.fz], fun m x => ball_cons rfl (ball_cons rfl (ball_cons rfl (ball_cons rfl (ball_nil)))), fun x => ball_cons rfl (ball_cons rfl (ball_cons rfl (ball_cons rfl (ball_nil))))⟩
def zEntry (x : D.Entry) : Nat := ByteArray.size x.Fill
theorem flEntry : FlatE eEntry := fun _ _ => rfl
theorem rkEntry : RK kEntry eEntry := rkIso (rkPair rkInt (rkPair rkInt (rkPair rkInt rkStr))) (fun _ => rfl)
theorem svEntry (m : Bool) (x : D.Entry) : SvL (eEntry m x) [Value.int .i64 x.Player, Value.int .i64 x.Issue, Value.int .i64 x.Tick, Value.string x.Fill] := .cons (.int _ _) (.cons (.int _ _) (.cons (.int _ _) (.cons (.str _) (.nil))))
noncomputable instance : DecidableEq D.House := Classical.typeDecidableEq _
def eHouse (m : Bool) (x : D.House) : List T := [.sl m 4 (x.List.map (eListed m)), .sl m 2 (x.Dict.map (eMeaning m)), .int .i64 x.Desk.Grid.Rows, .int .i64 x.Desk.Grid.Cols, .str x.Desk.Grid.Cells, .str x.Desk.Fill, .sl m 2 (x.Desk.Clues.map (eClue m)), .int .i64 x.Desk.Version, .sl m 10 (x.Issues.map (eIssue m)), .sl m 2 (x.Uses.map (eUsed m)), .sl m 5 (x.Corrections.map (eCorrection m)), .sl m 4 (x.Entries.map (eEntry m)), .int .i64 x.Now]
theorem okeHouse : EncOk eHouse 13 := ⟨fun _ _ => rfl, fun x => ball_cons (.sl _ _ (okeListed.cleanMap _)) (ball_cons (.sl _ _ (okeMeaning.cleanMap _)) (ball_cons (.int _ _) (ball_cons (.int _ _) (ball_cons (.str _) (ball_cons (.str _) (ball_cons (.sl _ _ (okeClue.cleanMap _)) (ball_cons (.int _ _) (ball_cons (.sl _ _ (okeIssue.cleanMap _)) (ball_cons (.sl _ _ (okeUsed.cleanMap _)) (ball_cons (.sl _ _ (okeCorrection.cleanMap _)) (ball_cons (.sl _ _ (okeEntry.cleanMap _)) (ball_cons (.int _ _) (ball_nil))))))))))))), fun m x => by simp only [eHouse, fzL, AE.fz, okeClue.fzMap, okeCorrection.fzMap, okeEntry.fzMap, okeIssue.fzMap, okeListed.fzMap, okeMeaning.fzMap, okeUsed.fzMap], fun m x => ball_cons rfl (ball_cons rfl (ball_cons rfl (ball_cons rfl (ball_cons rfl (ball_cons rfl (ball_cons rfl (ball_cons rfl (ball_cons rfl (ball_cons rfl (ball_cons rfl (ball_cons rfl (ball_cons rfl (ball_nil))))))))))))), fun x => ball_cons rfl (ball_cons rfl (ball_cons rfl (ball_cons rfl (ball_cons rfl (ball_cons rfl (ball_cons rfl (ball_cons rfl (ball_cons rfl (ball_cons rfl (ball_cons rfl (ball_cons rfl (ball_cons rfl (ball_nil)))))))))))))⟩
def zHouse (x : D.House) : Nat := (zL zListed) x.List + (zL zMeaning) x.Dict + zDraft x.Desk + (zL zIssue) x.Issues + (zL zUsed) x.Uses + (zL zCorrection) x.Corrections + (zL zEntry) x.Entries
theorem rkHouse : RK kHouse eHouse := rkIso (rkPair (rkSl rkListed okeListed rfl) (rkPair (rkSl rkMeaning okeMeaning rfl) (rkPair rkDraft (rkPair (rkSl rkIssue okeIssue rfl) (rkPair (rkSl rkUsed okeUsed rfl) (rkPair (rkSl rkCorrection okeCorrection rfl) (rkPair (rkSl rkEntry okeEntry rfl) rkInt))))))) (fun _ => rfl)
noncomputable instance : DecidableEq D.Slot := Classical.typeDecidableEq _
def eSlot (m : Bool) (x : D.Slot) : List T := [.int .i64 x.Number, .bool x.Down, .int .i64 x.Cell, .int .i64 x.Length]
theorem okeSlot : EncOk eSlot 4 := ⟨fun _ _ => rfl, fun x => ball_cons (.int _ _) (ball_cons (.bool _) (ball_cons (.int _ _) (ball_cons (.int _ _) (ball_nil)))), fun m x => by simp only [eSlot, fzL, AE.fz], fun m x => ball_cons rfl (ball_cons rfl (ball_cons rfl (ball_cons rfl (ball_nil)))), fun x => ball_cons rfl (ball_cons rfl (ball_cons rfl (ball_cons rfl (ball_nil))))⟩
def zSlot (x : D.Slot) : Nat := 0
theorem flSlot : FlatE eSlot := fun _ _ => rfl
theorem rkSlot : RK kSlot eSlot := rkIso (rkPair rkInt (rkPair rkBool (rkPair rkInt rkInt))) (fun _ => rfl)
theorem svSlot (m : Bool) (x : D.Slot) : SvL (eSlot m x) [Value.int .i64 x.Number, Value.bool x.Down, Value.int .i64 x.Cell, Value.int .i64 x.Length] := .cons (.int _ _) (.cons (.bool _) (.cons (.int _ _) (.cons (.int _ _) (.nil))))
theorem B.eql23 {call : CallT} {E : Env} {d : Option Tmp} {ty xt : TypeId} {ps : String} {af : Array Edge} {g : Option (Nat × Bool)} {x y : Operand} {a b : D.Grid} {m m' : Bool} (hx : VEv E x (.agg (eGrid m a))) (hy : VEv E y (.agg (eGrid m' b))) : OF call Try.prog E ⟨d, .binOp .eql 23 x y xt, ty, ps, af, g⟩ (.bool (decide (a = b))) := by
  obtain ⟨q, h1, h2⟩ := beq23 a b x y
  have h3 : q = decide (a = b) := by
    by_cases h : a = b
    · rw [h2.2 h, decide_eq_true h]
    · rw [decide_eq_false h]
      cases q
      · rfl
      · exact absurd (h2.1 rfl) h
  exact h3 ▸ OF.binA hx hy (svGrid _ a) (svGrid _ b) h1 (.bool _)
theorem B.neq23 {call : CallT} {E : Env} {d : Option Tmp} {ty xt : TypeId} {ps : String} {af : Array Edge} {g : Option (Nat × Bool)} {x y : Operand} {a b : D.Grid} {m m' : Bool} (hx : VEv E x (.agg (eGrid m a))) (hy : VEv E y (.agg (eGrid m' b))) : OF call Try.prog E ⟨d, .binOp .neq 23 x y xt, ty, ps, af, g⟩ (.bool (!decide (a = b))) := by
  obtain ⟨q, h1, h2⟩ := bne23 a b x y
  have h3 : q = decide (a = b) := by
    by_cases h : a = b
    · rw [h2.2 h, decide_eq_true h]
    · rw [decide_eq_false h]
      cases q
      · rfl
      · exact absurd (h2.1 rfl) h
  exact h3 ▸ OF.binA hx hy (svGrid _ a) (svGrid _ b) h1 (.bool _)
theorem B.eql29 {call : CallT} {E : Env} {d : Option Tmp} {ty xt : TypeId} {ps : String} {af : Array Edge} {g : Option (Nat × Bool)} {x y : Operand} {a b : D.Grid} {m m' : Bool} (hx : VEv E x (.agg (eGrid m a))) (hy : VEv E y (.agg (eGrid m' b))) : OF call Try.prog E ⟨d, .binOp .eql 29 x y xt, ty, ps, af, g⟩ (.bool (decide (a = b))) := by
  obtain ⟨q, h1, h2⟩ := beq29 a b x y
  have h3 : q = decide (a = b) := by
    by_cases h : a = b
    · rw [h2.2 h, decide_eq_true h]
    · rw [decide_eq_false h]
      cases q
      · rfl
      · exact absurd (h2.1 rfl) h
  exact h3 ▸ OF.binA hx hy (svGrid _ a) (svGrid _ b) h1 (.bool _)
theorem B.neq29 {call : CallT} {E : Env} {d : Option Tmp} {ty xt : TypeId} {ps : String} {af : Array Edge} {g : Option (Nat × Bool)} {x y : Operand} {a b : D.Grid} {m m' : Bool} (hx : VEv E x (.agg (eGrid m a))) (hy : VEv E y (.agg (eGrid m' b))) : OF call Try.prog E ⟨d, .binOp .neq 29 x y xt, ty, ps, af, g⟩ (.bool (!decide (a = b))) := by
  obtain ⟨q, h1, h2⟩ := bne29 a b x y
  have h3 : q = decide (a = b) := by
    by_cases h : a = b
    · rw [h2.2 h, decide_eq_true h]
    · rw [decide_eq_false h]
      cases q
      · rfl
      · exact absurd (h2.1 rfl) h
  exact h3 ▸ OF.binA hx hy (svGrid _ a) (svGrid _ b) h1 (.bool _)
theorem B.eql111 {call : CallT} {E : Env} {d : Option Tmp} {ty xt : TypeId} {ps : String} {af : Array Edge} {g : Option (Nat × Bool)} {x y : Operand} {a b : D.Listed} {m m' : Bool} (hx : VEv E x (.agg (eListed m a))) (hy : VEv E y (.agg (eListed m' b))) : OF call Try.prog E ⟨d, .binOp .eql 111 x y xt, ty, ps, af, g⟩ (.bool (decide (a = b))) := by
  obtain ⟨q, h1, h2⟩ := beq111 a b x y
  have h3 : q = decide (a = b) := by
    by_cases h : a = b
    · rw [h2.2 h, decide_eq_true h]
    · rw [decide_eq_false h]
      cases q
      · rfl
      · exact absurd (h2.1 rfl) h
  exact h3 ▸ OF.binA hx hy (svListed _ a) (svListed _ b) h1 (.bool _)
theorem B.neq111 {call : CallT} {E : Env} {d : Option Tmp} {ty xt : TypeId} {ps : String} {af : Array Edge} {g : Option (Nat × Bool)} {x y : Operand} {a b : D.Listed} {m m' : Bool} (hx : VEv E x (.agg (eListed m a))) (hy : VEv E y (.agg (eListed m' b))) : OF call Try.prog E ⟨d, .binOp .neq 111 x y xt, ty, ps, af, g⟩ (.bool (!decide (a = b))) := by
  obtain ⟨q, h1, h2⟩ := bne111 a b x y
  have h3 : q = decide (a = b) := by
    by_cases h : a = b
    · rw [h2.2 h, decide_eq_true h]
    · rw [decide_eq_false h]
      cases q
      · rfl
      · exact absurd (h2.1 rfl) h
  exact h3 ▸ OF.binA hx hy (svListed _ a) (svListed _ b) h1 (.bool _)
theorem B.eql114 {call : CallT} {E : Env} {d : Option Tmp} {ty xt : TypeId} {ps : String} {af : Array Edge} {g : Option (Nat × Bool)} {x y : Operand} {a b : D.Meaning} {m m' : Bool} (hx : VEv E x (.agg (eMeaning m a))) (hy : VEv E y (.agg (eMeaning m' b))) : OF call Try.prog E ⟨d, .binOp .eql 114 x y xt, ty, ps, af, g⟩ (.bool (decide (a = b))) := by
  obtain ⟨q, h1, h2⟩ := beq114 a b x y
  have h3 : q = decide (a = b) := by
    by_cases h : a = b
    · rw [h2.2 h, decide_eq_true h]
    · rw [decide_eq_false h]
      cases q
      · rfl
      · exact absurd (h2.1 rfl) h
  exact h3 ▸ OF.binA hx hy (svMeaning _ a) (svMeaning _ b) h1 (.bool _)
theorem B.neq114 {call : CallT} {E : Env} {d : Option Tmp} {ty xt : TypeId} {ps : String} {af : Array Edge} {g : Option (Nat × Bool)} {x y : Operand} {a b : D.Meaning} {m m' : Bool} (hx : VEv E x (.agg (eMeaning m a))) (hy : VEv E y (.agg (eMeaning m' b))) : OF call Try.prog E ⟨d, .binOp .neq 114 x y xt, ty, ps, af, g⟩ (.bool (!decide (a = b))) := by
  obtain ⟨q, h1, h2⟩ := bne114 a b x y
  have h3 : q = decide (a = b) := by
    by_cases h : a = b
    · rw [h2.2 h, decide_eq_true h]
    · rw [decide_eq_false h]
      cases q
      · rfl
      · exact absurd (h2.1 rfl) h
  exact h3 ▸ OF.binA hx hy (svMeaning _ a) (svMeaning _ b) h1 (.bool _)
theorem B.eql118 {call : CallT} {E : Env} {d : Option Tmp} {ty xt : TypeId} {ps : String} {af : Array Edge} {g : Option (Nat × Bool)} {x y : Operand} {a b : D.Used} {m m' : Bool} (hx : VEv E x (.agg (eUsed m a))) (hy : VEv E y (.agg (eUsed m' b))) : OF call Try.prog E ⟨d, .binOp .eql 118 x y xt, ty, ps, af, g⟩ (.bool (decide (a = b))) := by
  obtain ⟨q, h1, h2⟩ := beq118 a b x y
  have h3 : q = decide (a = b) := by
    by_cases h : a = b
    · rw [h2.2 h, decide_eq_true h]
    · rw [decide_eq_false h]
      cases q
      · rfl
      · exact absurd (h2.1 rfl) h
  exact h3 ▸ OF.binA hx hy (svUsed _ a) (svUsed _ b) h1 (.bool _)
theorem B.neq118 {call : CallT} {E : Env} {d : Option Tmp} {ty xt : TypeId} {ps : String} {af : Array Edge} {g : Option (Nat × Bool)} {x y : Operand} {a b : D.Used} {m m' : Bool} (hx : VEv E x (.agg (eUsed m a))) (hy : VEv E y (.agg (eUsed m' b))) : OF call Try.prog E ⟨d, .binOp .neq 118 x y xt, ty, ps, af, g⟩ (.bool (!decide (a = b))) := by
  obtain ⟨q, h1, h2⟩ := bne118 a b x y
  have h3 : q = decide (a = b) := by
    by_cases h : a = b
    · rw [h2.2 h, decide_eq_true h]
    · rw [decide_eq_false h]
      cases q
      · rfl
      · exact absurd (h2.1 rfl) h
  exact h3 ▸ OF.binA hx hy (svUsed _ a) (svUsed _ b) h1 (.bool _)
theorem B.eql123 {call : CallT} {E : Env} {d : Option Tmp} {ty xt : TypeId} {ps : String} {af : Array Edge} {g : Option (Nat × Bool)} {x y : Operand} {a b : D.Entry} {m m' : Bool} (hx : VEv E x (.agg (eEntry m a))) (hy : VEv E y (.agg (eEntry m' b))) : OF call Try.prog E ⟨d, .binOp .eql 123 x y xt, ty, ps, af, g⟩ (.bool (decide (a = b))) := by
  obtain ⟨q, h1, h2⟩ := beq123 a b x y
  have h3 : q = decide (a = b) := by
    by_cases h : a = b
    · rw [h2.2 h, decide_eq_true h]
    · rw [decide_eq_false h]
      cases q
      · rfl
      · exact absurd (h2.1 rfl) h
  exact h3 ▸ OF.binA hx hy (svEntry _ a) (svEntry _ b) h1 (.bool _)
theorem B.neq123 {call : CallT} {E : Env} {d : Option Tmp} {ty xt : TypeId} {ps : String} {af : Array Edge} {g : Option (Nat × Bool)} {x y : Operand} {a b : D.Entry} {m m' : Bool} (hx : VEv E x (.agg (eEntry m a))) (hy : VEv E y (.agg (eEntry m' b))) : OF call Try.prog E ⟨d, .binOp .neq 123 x y xt, ty, ps, af, g⟩ (.bool (!decide (a = b))) := by
  obtain ⟨q, h1, h2⟩ := bne123 a b x y
  have h3 : q = decide (a = b) := by
    by_cases h : a = b
    · rw [h2.2 h, decide_eq_true h]
    · rw [decide_eq_false h]
      cases q
      · rfl
      · exact absurd (h2.1 rfl) h
  exact h3 ▸ OF.binA hx hy (svEntry _ a) (svEntry _ b) h1 (.bool _)
theorem B.eql139 {call : CallT} {E : Env} {d : Option Tmp} {ty xt : TypeId} {ps : String} {af : Array Edge} {g : Option (Nat × Bool)} {x y : Operand} {a b : D.Slot} {m m' : Bool} (hx : VEv E x (.agg (eSlot m a))) (hy : VEv E y (.agg (eSlot m' b))) : OF call Try.prog E ⟨d, .binOp .eql 139 x y xt, ty, ps, af, g⟩ (.bool (decide (a = b))) := by
  obtain ⟨q, h1, h2⟩ := beq139 a b x y
  have h3 : q = decide (a = b) := by
    by_cases h : a = b
    · rw [h2.2 h, decide_eq_true h]
    · rw [decide_eq_false h]
      cases q
      · rfl
      · exact absurd (h2.1 rfl) h
  exact h3 ▸ OF.binA hx hy (svSlot _ a) (svSlot _ b) h1 (.bool _)
theorem B.neq139 {call : CallT} {E : Env} {d : Option Tmp} {ty xt : TypeId} {ps : String} {af : Array Edge} {g : Option (Nat × Bool)} {x y : Operand} {a b : D.Slot} {m m' : Bool} (hx : VEv E x (.agg (eSlot m a))) (hy : VEv E y (.agg (eSlot m' b))) : OF call Try.prog E ⟨d, .binOp .neq 139 x y xt, ty, ps, af, g⟩ (.bool (!decide (a = b))) := by
  obtain ⟨q, h1, h2⟩ := bne139 a b x y
  have h3 : q = decide (a = b) := by
    by_cases h : a = b
    · rw [h2.2 h, decide_eq_true h]
    · rw [decide_eq_false h]
      cases q
      · rfl
      · exact absurd (h2.1 rfl) h
  exact h3 ▸ OF.binA hx hy (svSlot _ a) (svSlot _ b) h1 (.bool _)
theorem B.eql151 {call : CallT} {E : Env} {d : Option Tmp} {ty xt : TypeId} {ps : String} {af : Array Edge} {g : Option (Nat × Bool)} {x y : Operand} {a b : D.Step} {m m' : Bool} (hx : VEv E x (.agg (eStep m a))) (hy : VEv E y (.agg (eStep m' b))) : OF call Try.prog E ⟨d, .binOp .eql 151 x y xt, ty, ps, af, g⟩ (.bool (decide (a = b))) := by
  obtain ⟨q, h1, h2⟩ := beq151 a b x y
  have h3 : q = decide (a = b) := by
    by_cases h : a = b
    · rw [h2.2 h, decide_eq_true h]
    · rw [decide_eq_false h]
      cases q
      · rfl
      · exact absurd (h2.1 rfl) h
  exact h3 ▸ OF.binA hx hy (svStep _ a) (svStep _ b) h1 (.bool _)
theorem B.neq151 {call : CallT} {E : Env} {d : Option Tmp} {ty xt : TypeId} {ps : String} {af : Array Edge} {g : Option (Nat × Bool)} {x y : Operand} {a b : D.Step} {m m' : Bool} (hx : VEv E x (.agg (eStep m a))) (hy : VEv E y (.agg (eStep m' b))) : OF call Try.prog E ⟨d, .binOp .neq 151 x y xt, ty, ps, af, g⟩ (.bool (!decide (a = b))) := by
  obtain ⟨q, h1, h2⟩ := bne151 a b x y
  have h3 : q = decide (a = b) := by
    by_cases h : a = b
    · rw [h2.2 h, decide_eq_true h]
    · rw [decide_eq_false h]
      cases q
      · rfl
      · exact absurd (h2.1 rfl) h
  exact h3 ▸ OF.binA hx hy (svStep _ a) (svStep _ b) h1 (.bool _)
theorem B.eql153 {call : CallT} {E : Env} {d : Option Tmp} {ty xt : TypeId} {ps : String} {af : Array Edge} {g : Option (Nat × Bool)} {x y : Operand} {a b : D.Listed} {m m' : Bool} (hx : VEv E x (.agg (eListed m a))) (hy : VEv E y (.agg (eListed m' b))) : OF call Try.prog E ⟨d, .binOp .eql 153 x y xt, ty, ps, af, g⟩ (.bool (decide (a = b))) := by
  obtain ⟨q, h1, h2⟩ := beq153 a b x y
  have h3 : q = decide (a = b) := by
    by_cases h : a = b
    · rw [h2.2 h, decide_eq_true h]
    · rw [decide_eq_false h]
      cases q
      · rfl
      · exact absurd (h2.1 rfl) h
  exact h3 ▸ OF.binA hx hy (svListed _ a) (svListed _ b) h1 (.bool _)
theorem B.neq153 {call : CallT} {E : Env} {d : Option Tmp} {ty xt : TypeId} {ps : String} {af : Array Edge} {g : Option (Nat × Bool)} {x y : Operand} {a b : D.Listed} {m m' : Bool} (hx : VEv E x (.agg (eListed m a))) (hy : VEv E y (.agg (eListed m' b))) : OF call Try.prog E ⟨d, .binOp .neq 153 x y xt, ty, ps, af, g⟩ (.bool (!decide (a = b))) := by
  obtain ⟨q, h1, h2⟩ := bne153 a b x y
  have h3 : q = decide (a = b) := by
    by_cases h : a = b
    · rw [h2.2 h, decide_eq_true h]
    · rw [decide_eq_false h]
      cases q
      · rfl
      · exact absurd (h2.1 rfl) h
  exact h3 ▸ OF.binA hx hy (svListed _ a) (svListed _ b) h1 (.bool _)
theorem B.eql155 {call : CallT} {E : Env} {d : Option Tmp} {ty xt : TypeId} {ps : String} {af : Array Edge} {g : Option (Nat × Bool)} {x y : Operand} {a b : D.Meaning} {m m' : Bool} (hx : VEv E x (.agg (eMeaning m a))) (hy : VEv E y (.agg (eMeaning m' b))) : OF call Try.prog E ⟨d, .binOp .eql 155 x y xt, ty, ps, af, g⟩ (.bool (decide (a = b))) := by
  obtain ⟨q, h1, h2⟩ := beq155 a b x y
  have h3 : q = decide (a = b) := by
    by_cases h : a = b
    · rw [h2.2 h, decide_eq_true h]
    · rw [decide_eq_false h]
      cases q
      · rfl
      · exact absurd (h2.1 rfl) h
  exact h3 ▸ OF.binA hx hy (svMeaning _ a) (svMeaning _ b) h1 (.bool _)
theorem B.neq155 {call : CallT} {E : Env} {d : Option Tmp} {ty xt : TypeId} {ps : String} {af : Array Edge} {g : Option (Nat × Bool)} {x y : Operand} {a b : D.Meaning} {m m' : Bool} (hx : VEv E x (.agg (eMeaning m a))) (hy : VEv E y (.agg (eMeaning m' b))) : OF call Try.prog E ⟨d, .binOp .neq 155 x y xt, ty, ps, af, g⟩ (.bool (!decide (a = b))) := by
  obtain ⟨q, h1, h2⟩ := bne155 a b x y
  have h3 : q = decide (a = b) := by
    by_cases h : a = b
    · rw [h2.2 h, decide_eq_true h]
    · rw [decide_eq_false h]
      cases q
      · rfl
      · exact absurd (h2.1 rfl) h
  exact h3 ▸ OF.binA hx hy (svMeaning _ a) (svMeaning _ b) h1 (.bool _)
theorem B.eql162 {call : CallT} {E : Env} {d : Option Tmp} {ty xt : TypeId} {ps : String} {af : Array Edge} {g : Option (Nat × Bool)} {x y : Operand} {a b : D.Used} {m m' : Bool} (hx : VEv E x (.agg (eUsed m a))) (hy : VEv E y (.agg (eUsed m' b))) : OF call Try.prog E ⟨d, .binOp .eql 162 x y xt, ty, ps, af, g⟩ (.bool (decide (a = b))) := by
  obtain ⟨q, h1, h2⟩ := beq162 a b x y
  have h3 : q = decide (a = b) := by
    by_cases h : a = b
    · rw [h2.2 h, decide_eq_true h]
    · rw [decide_eq_false h]
      cases q
      · rfl
      · exact absurd (h2.1 rfl) h
  exact h3 ▸ OF.binA hx hy (svUsed _ a) (svUsed _ b) h1 (.bool _)
theorem B.neq162 {call : CallT} {E : Env} {d : Option Tmp} {ty xt : TypeId} {ps : String} {af : Array Edge} {g : Option (Nat × Bool)} {x y : Operand} {a b : D.Used} {m m' : Bool} (hx : VEv E x (.agg (eUsed m a))) (hy : VEv E y (.agg (eUsed m' b))) : OF call Try.prog E ⟨d, .binOp .neq 162 x y xt, ty, ps, af, g⟩ (.bool (!decide (a = b))) := by
  obtain ⟨q, h1, h2⟩ := bne162 a b x y
  have h3 : q = decide (a = b) := by
    by_cases h : a = b
    · rw [h2.2 h, decide_eq_true h]
    · rw [decide_eq_false h]
      cases q
      · rfl
      · exact absurd (h2.1 rfl) h
  exact h3 ▸ OF.binA hx hy (svUsed _ a) (svUsed _ b) h1 (.bool _)
theorem B.eql167 {call : CallT} {E : Env} {d : Option Tmp} {ty xt : TypeId} {ps : String} {af : Array Edge} {g : Option (Nat × Bool)} {x y : Operand} {a b : D.Entry} {m m' : Bool} (hx : VEv E x (.agg (eEntry m a))) (hy : VEv E y (.agg (eEntry m' b))) : OF call Try.prog E ⟨d, .binOp .eql 167 x y xt, ty, ps, af, g⟩ (.bool (decide (a = b))) := by
  obtain ⟨q, h1, h2⟩ := beq167 a b x y
  have h3 : q = decide (a = b) := by
    by_cases h : a = b
    · rw [h2.2 h, decide_eq_true h]
    · rw [decide_eq_false h]
      cases q
      · rfl
      · exact absurd (h2.1 rfl) h
  exact h3 ▸ OF.binA hx hy (svEntry _ a) (svEntry _ b) h1 (.bool _)
theorem B.neq167 {call : CallT} {E : Env} {d : Option Tmp} {ty xt : TypeId} {ps : String} {af : Array Edge} {g : Option (Nat × Bool)} {x y : Operand} {a b : D.Entry} {m m' : Bool} (hx : VEv E x (.agg (eEntry m a))) (hy : VEv E y (.agg (eEntry m' b))) : OF call Try.prog E ⟨d, .binOp .neq 167 x y xt, ty, ps, af, g⟩ (.bool (!decide (a = b))) := by
  obtain ⟨q, h1, h2⟩ := bne167 a b x y
  have h3 : q = decide (a = b) := by
    by_cases h : a = b
    · rw [h2.2 h, decide_eq_true h]
    · rw [decide_eq_false h]
      cases q
      · rfl
      · exact absurd (h2.1 rfl) h
  exact h3 ▸ OF.binA hx hy (svEntry _ a) (svEntry _ b) h1 (.bool _)
theorem B.eql182 {call : CallT} {E : Env} {d : Option Tmp} {ty xt : TypeId} {ps : String} {af : Array Edge} {g : Option (Nat × Bool)} {x y : Operand} {a b : D.Step} {m m' : Bool} (hx : VEv E x (.agg (eStep m a))) (hy : VEv E y (.agg (eStep m' b))) : OF call Try.prog E ⟨d, .binOp .eql 182 x y xt, ty, ps, af, g⟩ (.bool (decide (a = b))) := by
  obtain ⟨q, h1, h2⟩ := beq182 a b x y
  have h3 : q = decide (a = b) := by
    by_cases h : a = b
    · rw [h2.2 h, decide_eq_true h]
    · rw [decide_eq_false h]
      cases q
      · rfl
      · exact absurd (h2.1 rfl) h
  exact h3 ▸ OF.binA hx hy (svStep _ a) (svStep _ b) h1 (.bool _)
theorem B.neq182 {call : CallT} {E : Env} {d : Option Tmp} {ty xt : TypeId} {ps : String} {af : Array Edge} {g : Option (Nat × Bool)} {x y : Operand} {a b : D.Step} {m m' : Bool} (hx : VEv E x (.agg (eStep m a))) (hy : VEv E y (.agg (eStep m' b))) : OF call Try.prog E ⟨d, .binOp .neq 182 x y xt, ty, ps, af, g⟩ (.bool (!decide (a = b))) := by
  obtain ⟨q, h1, h2⟩ := bne182 a b x y
  have h3 : q = decide (a = b) := by
    by_cases h : a = b
    · rw [h2.2 h, decide_eq_true h]
    · rw [decide_eq_false h]
      cases q
      · rfl
      · exact absurd (h2.1 rfl) h
  exact h3 ▸ OF.binA hx hy (svStep _ a) (svStep _ b) h1 (.bool _)
end Go.Proofs.Ytfdefabncdddkaa.AE
