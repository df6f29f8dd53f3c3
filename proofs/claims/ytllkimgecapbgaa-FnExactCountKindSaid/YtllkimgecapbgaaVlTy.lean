/- The plain types of the program as trees. Conditions: none. -/
import Derived.Test.YtllkimgecapbgaaVlMap
import Derived.Test.YtllkimgecapbgaaAeTy
namespace Go.Proofs.Ytllkimgecapbgaa.AE
open Go Go.RowKit
set_option linter.unusedVariables false
set_option linter.unusedSimpArgs false
noncomputable instance : DecidableEq D.Note := Classical.typeDecidableEq _
def eNote (m : Bool) (x : D.Note) : List T := [.int .i64 x.Cell, .str x.Letter, .int .i64 x.Tick, .int .i64 x.Who]
theorem okeNote : EncOk eNote 4 := ⟨fun _ _ => rfl, fun x => ball_cons (.int _ _) (ball_cons (.str _) (ball_cons (.int _ _) (ball_cons (.int _ _) (ball_nil)))), fun m x => by simp only [eNote, fzL, AE.fz], fun m x => ball_cons rfl (ball_cons rfl (ball_cons rfl (ball_cons rfl (ball_nil)))), fun x => ball_cons rfl (ball_cons rfl (ball_cons rfl (ball_cons rfl (ball_nil))))⟩
def zNote (x : D.Note) : Nat := ByteArray.size x.Letter
theorem flNote : FlatE eNote := fun _ _ => rfl
theorem rkNote : RK kNote eNote := rkIso (rkPair rkInt (rkPair rkStr (rkPair rkInt rkInt))) (fun _ => rfl)
theorem svNote (m : Bool) (x : D.Note) : SvL (eNote m x) [Value.int .i64 x.Cell, Value.string x.Letter, Value.int .i64 x.Tick, Value.int .i64 x.Who] := .cons (.int _ _) (.cons (.str _) (.cons (.int _ _) (.cons (.int _ _) (.nil))))
noncomputable instance : DecidableEq D.Used := Classical.typeDecidableEq _
def eUsed (m : Bool) (x : D.Used) : List T := [.str x.Word, .int .i64 x.Issue]
theorem okeUsed : EncOk eUsed 2 := ⟨fun _ _ => rfl, fun x => ball_cons (.str _) (ball_cons (.int _ _) (ball_nil)), fun m x => by simp only [eUsed, fzL, AE.fz], fun m x => ball_cons rfl (ball_cons rfl (ball_nil)), fun x => ball_cons rfl (ball_cons rfl (ball_nil))⟩
def zUsed (x : D.Used) : Nat := ByteArray.size x.Word
theorem flUsed : FlatE eUsed := fun _ _ => rfl
theorem rkUsed : RK kUsed eUsed := rkIso (rkPair rkStr rkInt) (fun _ => rfl)
theorem svUsed (m : Bool) (x : D.Used) : SvL (eUsed m x) [Value.string x.Word, Value.int .i64 x.Issue] := .cons (.str _) (.cons (.int _ _) (.nil))
noncomputable instance : DecidableEq D.Report := Classical.typeDecidableEq _
def eReport (m : Bool) (x : D.Report) : List T := [.int .i64 x.Tester, .int .i64 x.Slot, .int .i64 x.Kind, .str x.Word]
theorem okeReport : EncOk eReport 4 := ⟨fun _ _ => rfl, fun x => ball_cons (.int _ _) (ball_cons (.int _ _) (ball_cons (.int _ _) (ball_cons (.str _) (ball_nil)))), fun m x => by simp only [eReport, fzL, AE.fz], fun m x => ball_cons rfl (ball_cons rfl (ball_cons rfl (ball_cons rfl (ball_nil)))), fun x => ball_cons rfl (ball_cons rfl (ball_cons rfl (ball_cons rfl (ball_nil))))⟩
def zReport (x : D.Report) : Nat := ByteArray.size x.Word
theorem flReport : FlatE eReport := fun _ _ => rfl
theorem rkReport : RK kReport eReport := rkIso (rkPair rkInt (rkPair rkInt (rkPair rkInt rkStr))) (fun _ => rfl)
theorem svReport (m : Bool) (x : D.Report) : SvL (eReport m x) [Value.int .i64 x.Tester, Value.int .i64 x.Slot, Value.int .i64 x.Kind, Value.string x.Word] := .cons (.int _ _) (.cons (.int _ _) (.cons (.int _ _) (.cons (.str _) (.nil))))
theorem B.eql23 {call : CallT} {E : Env} {d : Option Tmp} {ty xt : TypeId} {ps : String} {af : Array Edge} {g : Option (Nat × Bool)} {x y : Operand} {a b : D.Note} {m m' : Bool} (hx : VEv E x (.agg (eNote m a))) (hy : VEv E y (.agg (eNote m' b))) : OF call Try.prog E ⟨d, .binOp .eql 23 x y xt, ty, ps, af, g⟩ (.bool (decide (a = b))) := by
  obtain ⟨q, h1, h2⟩ := beq23 a b x y
  have h3 : q = decide (a = b) := by
    by_cases h : a = b
    · rw [h2.2 h, decide_eq_true h]
    · rw [decide_eq_false h]
      cases q
      · rfl
      · exact absurd (h2.1 rfl) h
  exact h3 ▸ OF.binA hx hy (svNote _ a) (svNote _ b) h1 (.bool _)
theorem B.neq23 {call : CallT} {E : Env} {d : Option Tmp} {ty xt : TypeId} {ps : String} {af : Array Edge} {g : Option (Nat × Bool)} {x y : Operand} {a b : D.Note} {m m' : Bool} (hx : VEv E x (.agg (eNote m a))) (hy : VEv E y (.agg (eNote m' b))) : OF call Try.prog E ⟨d, .binOp .neq 23 x y xt, ty, ps, af, g⟩ (.bool (!decide (a = b))) := by
  obtain ⟨q, h1, h2⟩ := bne23 a b x y
  have h3 : q = decide (a = b) := by
    by_cases h : a = b
    · rw [h2.2 h, decide_eq_true h]
    · rw [decide_eq_false h]
      cases q
      · rfl
      · exact absurd (h2.1 rfl) h
  exact h3 ▸ OF.binA hx hy (svNote _ a) (svNote _ b) h1 (.bool _)
theorem B.eql26 {call : CallT} {E : Env} {d : Option Tmp} {ty xt : TypeId} {ps : String} {af : Array Edge} {g : Option (Nat × Bool)} {x y : Operand} {a b : D.Note} {m m' : Bool} (hx : VEv E x (.agg (eNote m a))) (hy : VEv E y (.agg (eNote m' b))) : OF call Try.prog E ⟨d, .binOp .eql 26 x y xt, ty, ps, af, g⟩ (.bool (decide (a = b))) := by
  obtain ⟨q, h1, h2⟩ := beq26 a b x y
  have h3 : q = decide (a = b) := by
    by_cases h : a = b
    · rw [h2.2 h, decide_eq_true h]
    · rw [decide_eq_false h]
      cases q
      · rfl
      · exact absurd (h2.1 rfl) h
  exact h3 ▸ OF.binA hx hy (svNote _ a) (svNote _ b) h1 (.bool _)
theorem B.neq26 {call : CallT} {E : Env} {d : Option Tmp} {ty xt : TypeId} {ps : String} {af : Array Edge} {g : Option (Nat × Bool)} {x y : Operand} {a b : D.Note} {m m' : Bool} (hx : VEv E x (.agg (eNote m a))) (hy : VEv E y (.agg (eNote m' b))) : OF call Try.prog E ⟨d, .binOp .neq 26 x y xt, ty, ps, af, g⟩ (.bool (!decide (a = b))) := by
  obtain ⟨q, h1, h2⟩ := bne26 a b x y
  have h3 : q = decide (a = b) := by
    by_cases h : a = b
    · rw [h2.2 h, decide_eq_true h]
    · rw [decide_eq_false h]
      cases q
      · rfl
      · exact absurd (h2.1 rfl) h
  exact h3 ▸ OF.binA hx hy (svNote _ a) (svNote _ b) h1 (.bool _)
theorem B.eql55 {call : CallT} {E : Env} {d : Option Tmp} {ty xt : TypeId} {ps : String} {af : Array Edge} {g : Option (Nat × Bool)} {x y : Operand} {a b : D.Used} {m m' : Bool} (hx : VEv E x (.agg (eUsed m a))) (hy : VEv E y (.agg (eUsed m' b))) : OF call Try.prog E ⟨d, .binOp .eql 55 x y xt, ty, ps, af, g⟩ (.bool (decide (a = b))) := by
  obtain ⟨q, h1, h2⟩ := beq55 a b x y
  have h3 : q = decide (a = b) := by
    by_cases h : a = b
    · rw [h2.2 h, decide_eq_true h]
    · rw [decide_eq_false h]
      cases q
      · rfl
      · exact absurd (h2.1 rfl) h
  exact h3 ▸ OF.binA hx hy (svUsed _ a) (svUsed _ b) h1 (.bool _)
theorem B.neq55 {call : CallT} {E : Env} {d : Option Tmp} {ty xt : TypeId} {ps : String} {af : Array Edge} {g : Option (Nat × Bool)} {x y : Operand} {a b : D.Used} {m m' : Bool} (hx : VEv E x (.agg (eUsed m a))) (hy : VEv E y (.agg (eUsed m' b))) : OF call Try.prog E ⟨d, .binOp .neq 55 x y xt, ty, ps, af, g⟩ (.bool (!decide (a = b))) := by
  obtain ⟨q, h1, h2⟩ := bne55 a b x y
  have h3 : q = decide (a = b) := by
    by_cases h : a = b
    · rw [h2.2 h, decide_eq_true h]
    · rw [decide_eq_false h]
      cases q
      · rfl
      · exact absurd (h2.1 rfl) h
  exact h3 ▸ OF.binA hx hy (svUsed _ a) (svUsed _ b) h1 (.bool _)
theorem B.eql56 {call : CallT} {E : Env} {d : Option Tmp} {ty xt : TypeId} {ps : String} {af : Array Edge} {g : Option (Nat × Bool)} {x y : Operand} {a b : D.Used} {m m' : Bool} (hx : VEv E x (.agg (eUsed m a))) (hy : VEv E y (.agg (eUsed m' b))) : OF call Try.prog E ⟨d, .binOp .eql 56 x y xt, ty, ps, af, g⟩ (.bool (decide (a = b))) := by
  obtain ⟨q, h1, h2⟩ := beq56 a b x y
  have h3 : q = decide (a = b) := by
    by_cases h : a = b
    · rw [h2.2 h, decide_eq_true h]
    · rw [decide_eq_false h]
      cases q
      · rfl
      · exact absurd (h2.1 rfl) h
  exact h3 ▸ OF.binA hx hy (svUsed _ a) (svUsed _ b) h1 (.bool _)
theorem B.neq56 {call : CallT} {E : Env} {d : Option Tmp} {ty xt : TypeId} {ps : String} {af : Array Edge} {g : Option (Nat × Bool)} {x y : Operand} {a b : D.Used} {m m' : Bool} (hx : VEv E x (.agg (eUsed m a))) (hy : VEv E y (.agg (eUsed m' b))) : OF call Try.prog E ⟨d, .binOp .neq 56 x y xt, ty, ps, af, g⟩ (.bool (!decide (a = b))) := by
  obtain ⟨q, h1, h2⟩ := bne56 a b x y
  have h3 : q = decide (a = b) := by
    by_cases h : a = b
    · rw [h2.2 h, decide_eq_true h]
    · rw [decide_eq_false h]
      cases q
      · rfl
      · exact absurd (h2.1 rfl) h
  exact h3 ▸ OF.binA hx hy (svUsed _ a) (svUsed _ b) h1 (.bool _)
theorem B.eql63 {call : CallT} {E : Env} {d : Option Tmp} {ty xt : TypeId} {ps : String} {af : Array Edge} {g : Option (Nat × Bool)} {x y : Operand} {a b : D.Report} {m m' : Bool} (hx : VEv E x (.agg (eReport m a))) (hy : VEv E y (.agg (eReport m' b))) : OF call Try.prog E ⟨d, .binOp .eql 63 x y xt, ty, ps, af, g⟩ (.bool (decide (a = b))) := by
  obtain ⟨q, h1, h2⟩ := beq63 a b x y
  have h3 : q = decide (a = b) := by
    by_cases h : a = b
    · rw [h2.2 h, decide_eq_true h]
    · rw [decide_eq_false h]
      cases q
      · rfl
      · exact absurd (h2.1 rfl) h
  exact h3 ▸ OF.binA hx hy (svReport _ a) (svReport _ b) h1 (.bool _)
theorem B.neq63 {call : CallT} {E : Env} {d : Option Tmp} {ty xt : TypeId} {ps : String} {af : Array Edge} {g : Option (Nat × Bool)} {x y : Operand} {a b : D.Report} {m m' : Bool} (hx : VEv E x (.agg (eReport m a))) (hy : VEv E y (.agg (eReport m' b))) : OF call Try.prog E ⟨d, .binOp .neq 63 x y xt, ty, ps, af, g⟩ (.bool (!decide (a = b))) := by
  obtain ⟨q, h1, h2⟩ := bne63 a b x y
  have h3 : q = decide (a = b) := by
    by_cases h : a = b
    · rw [h2.2 h, decide_eq_true h]
    · rw [decide_eq_false h]
      cases q
      · rfl
      · exact absurd (h2.1 rfl) h
  exact h3 ▸ OF.binA hx hy (svReport _ a) (svReport _ b) h1 (.bool _)
theorem B.eql65 {call : CallT} {E : Env} {d : Option Tmp} {ty xt : TypeId} {ps : String} {af : Array Edge} {g : Option (Nat × Bool)} {x y : Operand} {a b : D.Report} {m m' : Bool} (hx : VEv E x (.agg (eReport m a))) (hy : VEv E y (.agg (eReport m' b))) : OF call Try.prog E ⟨d, .binOp .eql 65 x y xt, ty, ps, af, g⟩ (.bool (decide (a = b))) := by
  obtain ⟨q, h1, h2⟩ := beq65 a b x y
  have h3 : q = decide (a = b) := by
    by_cases h : a = b
    · rw [h2.2 h, decide_eq_true h]
    · rw [decide_eq_false h]
      cases q
      · rfl
      · exact absurd (h2.1 rfl) h
  exact h3 ▸ OF.binA hx hy (svReport _ a) (svReport _ b) h1 (.bool _)
theorem B.neq65 {call : CallT} {E : Env} {d : Option Tmp} {ty xt : TypeId} {ps : String} {af : Array Edge} {g : Option (Nat × Bool)} {x y : Operand} {a b : D.Report} {m m' : Bool} (hx : VEv E x (.agg (eReport m a))) (hy : VEv E y (.agg (eReport m' b))) : OF call Try.prog E ⟨d, .binOp .neq 65 x y xt, ty, ps, af, g⟩ (.bool (!decide (a = b))) := by
  obtain ⟨q, h1, h2⟩ := bne65 a b x y
  have h3 : q = decide (a = b) := by
    by_cases h : a = b
    · rw [h2.2 h, decide_eq_true h]
    · rw [decide_eq_false h]
      cases q
      · rfl
      · exact absurd (h2.1 rfl) h
  exact h3 ▸ OF.binA hx hy (svReport _ a) (svReport _ b) h1 (.bool _)
end Go.Proofs.Ytllkimgecapbgaa.AE
