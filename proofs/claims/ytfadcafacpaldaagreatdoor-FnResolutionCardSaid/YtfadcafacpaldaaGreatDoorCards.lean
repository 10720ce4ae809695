/-
  DERIVED. GIVEN WITH THE SEED: THE CARDS: each row of YtfadcafacpaldaaGreatDoorRows.lean that lists a variable, with what it lists TIED to the program's text (the seventh form; the later family's looks); each row that meets fmt, with fmt's text TOLD by the authors' own Lean function (tested against real Go, not proved from fmt's source: count such statements apart). THE CARD IS WHAT COUNTS. Prove the row's statement (the work); the ties are given (YtfadcafacpaldaaGreatDoorTie.lean); close each card by the builder's one call (the guide's Derived/Test/ToyasCard.lean, 'card_holds'). Laid BY PROGRAM, IN A SANDBOX (cutbox-door.mjs). By AI agents, Wed Nov 11 2026. No macro, syntax, notation, axiom, sorry.
-/
import Derived.Test.YtfadcafacpaldaaGreatDoorRows
import GoSem.ClaimSeven
namespace Go.Proofs.YtfadcafacpaldaaGreatDoor
namespace Rows

/-- THE TIED CARD OF 'laws.FnResolution'. -/
def fnResolutionCard : Claim7 := { stood := { row := fnResolutionRow, standIns := [], harness := (true, "ce6cf9a86587c7a27bf1c573ec7a9cc1f18598ad5917573d2266a9d26d57a508"), looks := false }, kinds := [], alts := [], laidByText := true, laidKinds := [.data], laidTests := true, laidLooks := .later }
def FnResolutionCardSaid : Prop := Claim7.holds Tryz.pinned (.plain (OpenSpec.ofChange fnResolutionSpec)) fnResolutionCard

/-- THE SECOND FORM's CARD OF 'laws.FnResolution'. -/
def fnResolutionUptoCard : Claim7 := { stood := { row := fnResolutionUptoRow, standIns := [], harness := (true, "ce6cf9a86587c7a27bf1c573ec7a9cc1f18598ad5917573d2266a9d26d57a508"), looks := false }, kinds := [], alts := [], laidByText := true, laidKinds := [.data], laidTests := true, laidLooks := .later }
def FnResolutionUptoCardSaid : Prop := Claim7.holds Tryz.pinned (.plain (OpenSpec.upto fnResolutionSpec)) fnResolutionUptoCard
end Rows
end Go.Proofs.YtfadcafacpaldaaGreatDoor
