/-
  DERIVED. GIVEN WITH THE SEED: THE CARDS: each row of YtmefbjdioaahdaaGreatDoorRows.lean that lists a variable, with what it lists TIED to the program's text (the seventh form; the later family's looks); each row that meets fmt, with fmt's text TOLD by the authors' own Lean function (tested against real Go, not proved from fmt's source: count such statements apart). THE CARD IS WHAT COUNTS. Prove the row's statement (the work); the ties are given (YtmefbjdioaahdaaGreatDoorTie.lean); close each card by the builder's one call (the guide's Derived/Test/ToyasCard.lean, 'card_holds'). Laid BY PROGRAM, IN A SANDBOX (cutbox-door.mjs). By AI agents, Wed Nov 11 2026. No macro, syntax, notation, axiom, sorry.
-/
import Derived.Test.YtmefbjdioaahdaaGreatDoorRows
import GoSem.ClaimSeven
namespace Go.Proofs.YtmefbjdioaahdaaGreatDoor
namespace Rows

/-- THE TIED CARD OF 'laws.FnClosedFiltrations'. -/
def fnClosedFiltrationsCard : Claim7 := { stood := { row := fnClosedFiltrationsRow, standIns := [], harness := (true, "ccdfeb1f8ea98de3d00ea952339807171b22b0576293f1bf92bfdf0ca4648985"), looks := false }, kinds := [], alts := [], laidByText := true, laidKinds := [.data, .data, .data], laidTests := true, laidLooks := .later }
def FnClosedFiltrationsCardSaid : Prop := Claim7.holds Tryz.pinned (.plain (OpenSpec.ofChange fnClosedFiltrationsSpec)) fnClosedFiltrationsCard

/-- THE SECOND FORM's CARD OF 'laws.FnClosedFiltrations'. -/
def fnClosedFiltrationsUptoCard : Claim7 := { stood := { row := fnClosedFiltrationsUptoRow, standIns := [], harness := (true, "ccdfeb1f8ea98de3d00ea952339807171b22b0576293f1bf92bfdf0ca4648985"), looks := false }, kinds := [], alts := [], laidByText := true, laidKinds := [.data, .data, .data], laidTests := true, laidLooks := .later }
def FnClosedFiltrationsUptoCardSaid : Prop := Claim7.holds Tryz.pinned (.plain (OpenSpec.upto fnClosedFiltrationsSpec)) fnClosedFiltrationsUptoCard
end Rows
end Go.Proofs.YtmefbjdioaahdaaGreatDoor
