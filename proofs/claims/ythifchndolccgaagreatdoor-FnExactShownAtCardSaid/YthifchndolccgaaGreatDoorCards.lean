/-
  DERIVED. GIVEN WITH THE SEED: THE CARDS: each row of YthifchndolccgaaGreatDoorRows.lean that lists a variable, with what it lists TIED to the program's text (the seventh form; the later family's looks); each row that meets fmt, with fmt's text TOLD by the authors' own Lean function (tested against real Go, not proved from fmt's source: count such statements apart). THE CARD IS WHAT COUNTS. Prove the row's statement (the work); the ties are given (YthifchndolccgaaGreatDoorTie.lean); close each card by the builder's one call (the guide's Derived/Test/ToyasCard.lean, 'card_holds'). Laid BY PROGRAM, IN A SANDBOX (cutbox-door.mjs). By AI agents, Wed Nov 11 2026. No macro, syntax, notation, axiom, sorry.
-/
import Derived.Test.YthifchndolccgaaGreatDoorRows
import GoSem.ClaimSeven
namespace Go.Proofs.YthifchndolccgaaGreatDoor
namespace Rows

/-- THE TIED CARD OF 'laws.FnExactNewSession'. -/
def fnExactNewSessionCard : Claim7 := { stood := { row := fnExactNewSessionRow, standIns := [], harness := (true, "8aef08f5066f730ce75cf9ac12f715ede17bc86de40ff41df51c7270a012cfc5"), looks := false }, kinds := [], alts := [], laidByText := true, laidKinds := [.data, .pinned], laidTests := true, laidLooks := .later }
def FnExactNewSessionCardSaid : Prop := Claim7.holds Tryz.pinned (.plain (OpenSpec.ofChange fnExactNewSessionSpec)) fnExactNewSessionCard

/-- THE TIED CARD OF 'laws.FnExactSolutionAt'. -/
def fnExactSolutionAtCard : Claim7 := { stood := { row := fnExactSolutionAtRow, standIns := [], harness := (true, "8aef08f5066f730ce75cf9ac12f715ede17bc86de40ff41df51c7270a012cfc5"), looks := false }, kinds := [], alts := [], laidByText := true, laidKinds := [.data, .pinned], laidTests := true, laidLooks := .later }
def FnExactSolutionAtCardSaid : Prop := Claim7.holds Tryz.pinned (.plain (OpenSpec.ofChange fnExactSolutionAtSpec)) fnExactSolutionAtCard

/-- THE TIED CARD OF 'laws.FnExactShownAt'. -/
def fnExactShownAtCard : Claim7 := { stood := { row := fnExactShownAtRow, standIns := [], harness := (true, "8aef08f5066f730ce75cf9ac12f715ede17bc86de40ff41df51c7270a012cfc5"), looks := false }, kinds := [], alts := [], laidByText := true, laidKinds := [.data, .data, .data], laidTests := true, laidLooks := .later }
def FnExactShownAtCardSaid : Prop := Claim7.holds Tryz.pinned (.plain (OpenSpec.ofChange fnExactShownAtSpec)) fnExactShownAtCard

/-- THE SECOND FORM's CARD OF 'laws.FnExactNewSession'. -/
def fnExactNewSessionUptoCard : Claim7 := { stood := { row := fnExactNewSessionUptoRow, standIns := [], harness := (true, "8aef08f5066f730ce75cf9ac12f715ede17bc86de40ff41df51c7270a012cfc5"), looks := false }, kinds := [], alts := [], laidByText := true, laidKinds := [.data, .pinned], laidTests := true, laidLooks := .later }
def FnExactNewSessionUptoCardSaid : Prop := Claim7.holds Tryz.pinned (.plain (OpenSpec.upto fnExactNewSessionSpec)) fnExactNewSessionUptoCard

/-- THE SECOND FORM's CARD OF 'laws.FnExactSolutionAt'. -/
def fnExactSolutionAtUptoCard : Claim7 := { stood := { row := fnExactSolutionAtUptoRow, standIns := [], harness := (true, "8aef08f5066f730ce75cf9ac12f715ede17bc86de40ff41df51c7270a012cfc5"), looks := false }, kinds := [], alts := [], laidByText := true, laidKinds := [.data, .pinned], laidTests := true, laidLooks := .later }
def FnExactSolutionAtUptoCardSaid : Prop := Claim7.holds Tryz.pinned (.plain (OpenSpec.upto fnExactSolutionAtSpec)) fnExactSolutionAtUptoCard

/-- THE SECOND FORM's CARD OF 'laws.FnExactShownAt'. -/
def fnExactShownAtUptoCard : Claim7 := { stood := { row := fnExactShownAtUptoRow, standIns := [], harness := (true, "8aef08f5066f730ce75cf9ac12f715ede17bc86de40ff41df51c7270a012cfc5"), looks := false }, kinds := [], alts := [], laidByText := true, laidKinds := [.data, .data, .data], laidTests := true, laidLooks := .later }
def FnExactShownAtUptoCardSaid : Prop := Claim7.holds Tryz.pinned (.plain (OpenSpec.upto fnExactShownAtSpec)) fnExactShownAtUptoCard
end Rows
end Go.Proofs.YthifchndolccgaaGreatDoor
