/-
  DERIVED. GIVEN WITH THE SEED: THE CARDS: each row of YtcglnehpapgfpaaDoorRows.lean that lists a variable, with what it lists TIED to the program's text (the seventh form; the later family's looks); each row that meets fmt, with fmt's text TOLD by the authors' own Lean function (tested against real Go, not proved from fmt's source: count such statements apart). THE CARD IS WHAT COUNTS. Prove the row's statement (the work); the ties are given (YtcglnehpapgfpaaDoorTie.lean); close each card by the builder's one call (the guide's Derived/Test/ToyasCard.lean, 'card_holds'). Laid BY PROGRAM, IN A SANDBOX (cutbox-door.mjs). By AI agents, Wed Nov 11 2026. No macro, syntax, notation, axiom, sorry.
-/
import Derived.Test.YtcglnehpapgfpaaDoorRows
import GoSem.ClaimSeven
namespace Go.Proofs.YtcglnehpapgfpaaDoor
namespace Rows

/-- THE TIED CARD OF 'laws.FnHints'. -/
def fnHintsCard : Claim7 := { stood := { row := fnHintsRow, standIns := [], harness := (true, "cdd9389bbf68c6426642751ddc93712ef31b70e3b89c97ad61167d1525980d92"), looks := false }, kinds := [], alts := [], laidByText := true, laidKinds := [.data, .data, .data], laidTests := true, laidLooks := .later }
def FnHintsCardSaid : Prop := Claim7.holds Tryd.pinned (.plain (OpenSpec.ofChange fnHintsSpec)) fnHintsCard

/-- THE TIED CARD OF 'laws.FnMerged'. -/
def fnMergedCard : Claim7 := { stood := { row := fnMergedRow, standIns := [], harness := (true, "cdd9389bbf68c6426642751ddc93712ef31b70e3b89c97ad61167d1525980d92"), looks := false }, kinds := [], alts := [], laidByText := true, laidKinds := [.data, .pinned], laidTests := true, laidLooks := .later }
def FnMergedCardSaid : Prop := Claim7.holds Tryd.pinned (.plain (OpenSpec.ofChange fnMergedSpec)) fnMergedCard

/-- THE SECOND FORM's CARD OF 'laws.FnHints'. -/
def fnHintsUptoCard : Claim7 := { stood := { row := fnHintsUptoRow, standIns := [], harness := (true, "cdd9389bbf68c6426642751ddc93712ef31b70e3b89c97ad61167d1525980d92"), looks := false }, kinds := [], alts := [], laidByText := true, laidKinds := [.data, .data, .data], laidTests := true, laidLooks := .later }
def FnHintsUptoCardSaid : Prop := Claim7.holds Tryd.pinned (.plain (OpenSpec.upto fnHintsSpec)) fnHintsUptoCard

/-- THE SECOND FORM's CARD OF 'laws.FnMerged'. -/
def fnMergedUptoCard : Claim7 := { stood := { row := fnMergedUptoRow, standIns := [], harness := (true, "cdd9389bbf68c6426642751ddc93712ef31b70e3b89c97ad61167d1525980d92"), looks := false }, kinds := [], alts := [], laidByText := true, laidKinds := [.data, .pinned], laidTests := true, laidLooks := .later }
def FnMergedUptoCardSaid : Prop := Claim7.holds Tryd.pinned (.plain (OpenSpec.upto fnMergedSpec)) fnMergedUptoCard
end Rows
end Go.Proofs.YtcglnehpapgfpaaDoor
