/-
  DERIVED. GIVEN WITH THE SEED: THE CARDS: each row of YtoojmhgpadkhmaaGreatDoorRows.lean that lists a variable, with what it lists TIED to the program's text (the seventh form; the later family's looks); each row that meets fmt, with fmt's text TOLD by the authors' own Lean function (tested against real Go, not proved from fmt's source: count such statements apart). THE CARD IS WHAT COUNTS. Prove the row's statement (the work); the ties are given (YtoojmhgpadkhmaaGreatDoorTie.lean); close each card by the builder's one call (the guide's Derived/Test/ToyasCard.lean, 'card_holds'). Laid BY PROGRAM, IN A SANDBOX (cutbox-door.mjs). By AI agents, Wed Nov 11 2026. No macro, syntax, notation, axiom, sorry.
-/
import Derived.Test.YtoojmhgpadkhmaaGreatDoorRows
import GoSem.ClaimSeven
namespace Go.Proofs.YtoojmhgpadkhmaaGreatDoor
namespace Rows

/-- THE TIED CARD OF 'laws.FnExpanded'. -/
def fnExpandedCard : Claim7 := { stood := { row := fnExpandedRow, standIns := [], harness := (true, "1e69f0386532b83e73b32dc00813cabeaac0574b228a58c15dd7fd27f7544ec1"), looks := false }, kinds := [], alts := [], laidByText := true, laidKinds := [.pinned, .data, .data, .data, .data, .data], laidTests := true, laidLooks := .later }
def FnExpandedCardSaid : Prop := Claim7.holds Tryz.pinned (.plain (OpenSpec.ofChange fnExpandedSpec)) fnExpandedCard

/-- THE SECOND FORM's CARD OF 'laws.FnExpanded'. -/
def fnExpandedUptoCard : Claim7 := { stood := { row := fnExpandedUptoRow, standIns := [], harness := (true, "1e69f0386532b83e73b32dc00813cabeaac0574b228a58c15dd7fd27f7544ec1"), looks := false }, kinds := [], alts := [], laidByText := true, laidKinds := [.pinned, .data, .data, .data, .data, .data], laidTests := true, laidLooks := .later }
def FnExpandedUptoCardSaid : Prop := Claim7.holds Tryz.pinned (.plain (OpenSpec.upto fnExpandedSpec)) fnExpandedUptoCard
end Rows
end Go.Proofs.YtoojmhgpadkhmaaGreatDoor
