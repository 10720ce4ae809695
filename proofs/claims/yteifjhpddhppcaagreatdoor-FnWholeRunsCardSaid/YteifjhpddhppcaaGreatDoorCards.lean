/-
  DERIVED. GIVEN WITH THE SEED: THE CARDS: each row of YteifjhpddhppcaaGreatDoorRows.lean that lists a variable, with what it lists TIED to the program's text (the seventh form; the later family's looks); each row that meets fmt, with fmt's text TOLD by the authors' own Lean function (tested against real Go, not proved from fmt's source: count such statements apart). THE CARD IS WHAT COUNTS. Prove the row's statement (the work); the ties are given (YteifjhpddhppcaaGreatDoorTie.lean); close each card by the builder's one call (the guide's Derived/Test/ToyasCard.lean, 'card_holds'). Laid BY PROGRAM, IN A SANDBOX (cutbox-door.mjs). By AI agents, Wed Nov 11 2026. No macro, syntax, notation, axiom, sorry.
-/
import Derived.Test.YteifjhpddhppcaaGreatDoorRows
import GoSem.ClaimSeven
namespace Go.Proofs.YteifjhpddhppcaaGreatDoor
namespace Rows

/-- THE TIED CARD OF 'laws.FnWholeRuns'. -/
def fnWholeRunsCard : Claim7 := { stood := { row := fnWholeRunsRow, standIns := [], harness := (true, "6f8f429ab49df8b3f7f03c390469ae7f3f66b72f34fdb6e817fd004dd12c16a3"), looks := false }, kinds := [], alts := [], laidByText := true, laidKinds := [.data, .data, .data, .data, .pinned], laidTests := true, laidLooks := .later }
def FnWholeRunsCardSaid : Prop := Claim7.holds Tryz.pinned (.plain (OpenSpec.ofChange fnWholeRunsSpec)) fnWholeRunsCard

/-- THE SECOND FORM's CARD OF 'laws.FnWholeRuns'. -/
def fnWholeRunsUptoCard : Claim7 := { stood := { row := fnWholeRunsUptoRow, standIns := [], harness := (true, "6f8f429ab49df8b3f7f03c390469ae7f3f66b72f34fdb6e817fd004dd12c16a3"), looks := false }, kinds := [], alts := [], laidByText := true, laidKinds := [.data, .data, .data, .data, .pinned], laidTests := true, laidLooks := .later }
def FnWholeRunsUptoCardSaid : Prop := Claim7.holds Tryz.pinned (.plain (OpenSpec.upto fnWholeRunsSpec)) fnWholeRunsUptoCard
end Rows
end Go.Proofs.YteifjhpddhppcaaGreatDoor
