/-
  DERIVED. GIVEN WITH THE SEED: THE CARDS: each row of YthifchndolccgaaDoorRows.lean that lists a variable, with what it lists TIED to the program's text (the seventh form; the later family's looks); each row that meets fmt, with fmt's text TOLD by the authors' own Lean function (tested against real Go, not proved from fmt's source: count such statements apart). THE CARD IS WHAT COUNTS. Prove the row's statement (the work); the ties are given (YthifchndolccgaaDoorTie.lean); close each card by the builder's one call (the guide's Derived/Test/ToyasCard.lean, 'card_holds'). Laid BY PROGRAM, IN A SANDBOX (cutbox-door.mjs). By AI agents, Wed Nov 11 2026. No macro, syntax, notation, axiom, sorry.
-/
import Derived.Test.YthifchndolccgaaDoorRows
import GoSem.ClaimSeven
namespace Go.Proofs.YthifchndolccgaaDoor
namespace Rows

/-- THE TIED CARD OF 'laws.FnExactNotedFill'. -/
def fnExactNotedFillCard : Claim7 := { stood := { row := fnExactNotedFillRow, standIns := [], harness := (true, "8a379b13017b68fc1946988d448cccaa55efd3b1ceccca8c0882f0dddc771dc8"), looks := false }, kinds := [], alts := [], laidByText := true, laidKinds := [.data, .pinned], laidTests := true, laidLooks := .later }
def FnExactNotedFillCardSaid : Prop := Claim7.holds Tryd.pinned (.plain (OpenSpec.ofChange fnExactNotedFillSpec)) fnExactNotedFillCard

/-- THE TIED CARD OF 'laws.FnExactAfterHint'. -/
def fnExactAfterHintCard : Claim7 := { stood := { row := fnExactAfterHintRow, standIns := [], harness := (true, "8a379b13017b68fc1946988d448cccaa55efd3b1ceccca8c0882f0dddc771dc8"), looks := false }, kinds := [], alts := [], laidByText := true, laidKinds := [.data, .data, .data], laidTests := true, laidLooks := .later }
def FnExactAfterHintCardSaid : Prop := Claim7.holds Tryd.pinned (.plain (OpenSpec.ofChange fnExactAfterHintSpec)) fnExactAfterHintCard

/-- THE TIED CARD OF 'laws.FnExactNewDraft'. -/
def fnExactNewDraftCard : Claim7 := { stood := { row := fnExactNewDraftRow, standIns := [], harness := (true, "8a379b13017b68fc1946988d448cccaa55efd3b1ceccca8c0882f0dddc771dc8"), looks := false }, kinds := [], alts := [], laidByText := true, laidKinds := [.data, .pinned], laidTests := true, laidLooks := .later }
def FnExactNewDraftCardSaid : Prop := Claim7.holds Tryd.pinned (.plain (OpenSpec.ofChange fnExactNewDraftSpec)) fnExactNewDraftCard

/-- THE SECOND FORM's CARD OF 'laws.FnExactNotedFill'. -/
def fnExactNotedFillUptoCard : Claim7 := { stood := { row := fnExactNotedFillUptoRow, standIns := [], harness := (true, "8a379b13017b68fc1946988d448cccaa55efd3b1ceccca8c0882f0dddc771dc8"), looks := false }, kinds := [], alts := [], laidByText := true, laidKinds := [.data, .pinned], laidTests := true, laidLooks := .later }
def FnExactNotedFillUptoCardSaid : Prop := Claim7.holds Tryd.pinned (.plain (OpenSpec.upto fnExactNotedFillSpec)) fnExactNotedFillUptoCard

/-- THE SECOND FORM's CARD OF 'laws.FnExactAfterHint'. -/
def fnExactAfterHintUptoCard : Claim7 := { stood := { row := fnExactAfterHintUptoRow, standIns := [], harness := (true, "8a379b13017b68fc1946988d448cccaa55efd3b1ceccca8c0882f0dddc771dc8"), looks := false }, kinds := [], alts := [], laidByText := true, laidKinds := [.data, .data, .data], laidTests := true, laidLooks := .later }
def FnExactAfterHintUptoCardSaid : Prop := Claim7.holds Tryd.pinned (.plain (OpenSpec.upto fnExactAfterHintSpec)) fnExactAfterHintUptoCard

/-- THE SECOND FORM's CARD OF 'laws.FnExactNewDraft'. -/
def fnExactNewDraftUptoCard : Claim7 := { stood := { row := fnExactNewDraftUptoRow, standIns := [], harness := (true, "8a379b13017b68fc1946988d448cccaa55efd3b1ceccca8c0882f0dddc771dc8"), looks := false }, kinds := [], alts := [], laidByText := true, laidKinds := [.data, .pinned], laidTests := true, laidLooks := .later }
def FnExactNewDraftUptoCardSaid : Prop := Claim7.holds Tryd.pinned (.plain (OpenSpec.upto fnExactNewDraftSpec)) fnExactNewDraftUptoCard
end Rows
end Go.Proofs.YthifchndolccgaaDoor
