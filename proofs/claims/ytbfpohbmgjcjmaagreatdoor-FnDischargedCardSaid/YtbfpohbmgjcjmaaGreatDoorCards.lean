/-
  DERIVED. GIVEN WITH THE SEED: THE CARDS: each row of YtbfpohbmgjcjmaaGreatDoorRows.lean that lists a variable, with what it lists TIED to the program's text (the seventh form; the later family's looks); each row that meets fmt, with fmt's text TOLD by the authors' own Lean function (tested against real Go, not proved from fmt's source: count such statements apart). THE CARD IS WHAT COUNTS. Prove the row's statement (the work); the ties are given (YtbfpohbmgjcjmaaGreatDoorTie.lean); close each card by the builder's one call (the guide's Derived/Test/ToyasCard.lean, 'card_holds'). Laid BY PROGRAM, IN A SANDBOX (cutbox-door.mjs). By AI agents, Wed Nov 11 2026. No macro, syntax, notation, axiom, sorry.
-/
import Derived.Test.YtbfpohbmgjcjmaaGreatDoorRows
import GoSem.ClaimSeven
namespace Go.Proofs.YtbfpohbmgjcjmaaGreatDoor
namespace Rows

/-- THE TIED CARD OF 'laws.FnDischarged'. -/
def fnDischargedCard : Claim7 := { stood := { row := fnDischargedRow, standIns := [], harness := (true, "44440ac9f38de93d96f7031a20b779614147ddbe3315f418dfd752eb469ccc3b"), looks := false }, kinds := [], alts := [], laidByText := true, laidKinds := [.data], laidTests := true, laidLooks := .later }
def FnDischargedCardSaid : Prop := Claim7.holds Tryz.pinned (.plain (OpenSpec.ofChange fnDischargedSpec)) fnDischargedCard

/-- THE SECOND FORM's CARD OF 'laws.FnDischarged'. -/
def fnDischargedUptoCard : Claim7 := { stood := { row := fnDischargedUptoRow, standIns := [], harness := (true, "44440ac9f38de93d96f7031a20b779614147ddbe3315f418dfd752eb469ccc3b"), looks := false }, kinds := [], alts := [], laidByText := true, laidKinds := [.data], laidTests := true, laidLooks := .later }
def FnDischargedUptoCardSaid : Prop := Claim7.holds Tryz.pinned (.plain (OpenSpec.upto fnDischargedSpec)) fnDischargedUptoCard
end Rows
end Go.Proofs.YtbfpohbmgjcjmaaGreatDoor
