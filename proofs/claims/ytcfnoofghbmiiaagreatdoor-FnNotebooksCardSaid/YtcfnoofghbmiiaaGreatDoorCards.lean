/-
  DERIVED. GIVEN WITH THE SEED: THE CARDS: each row of YtcfnoofghbmiiaaGreatDoorRows.lean that lists a variable, with what it lists TIED to the program's text (the seventh form; the later family's looks); each row that meets fmt, with fmt's text TOLD by the authors' own Lean function (tested against real Go, not proved from fmt's source: count such statements apart). THE CARD IS WHAT COUNTS. Prove the row's statement (the work); the ties are given (YtcfnoofghbmiiaaGreatDoorTie.lean); close each card by the builder's one call (the guide's Derived/Test/ToyasCard.lean, 'card_holds'). Laid BY PROGRAM, IN A SANDBOX (cutbox-door.mjs). By AI agents, Wed Nov 11 2026. No macro, syntax, notation, axiom, sorry.
-/
import Derived.Test.YtcfnoofghbmiiaaGreatDoorRows
import GoSem.ClaimSeven
namespace Go.Proofs.YtcfnoofghbmiiaaGreatDoor
namespace Rows

/-- THE TIED CARD OF 'laws.FnNotebooks'. -/
def fnNotebooksCard : Claim7 := { stood := { row := fnNotebooksRow, standIns := [], harness := (true, "51106fcb48be18009b30bce0ac05e558ec5c1bd3451f886ce75166e3b2f74e9b"), looks := false }, kinds := [], alts := [], laidByText := true, laidKinds := [.data, .data, .data, .data, .pinned], laidTests := true, laidLooks := .later }
def FnNotebooksCardSaid : Prop := Claim7.holds Tryz.pinned (.plain (OpenSpec.ofChange fnNotebooksSpec)) fnNotebooksCard

/-- THE SECOND FORM's CARD OF 'laws.FnNotebooks'. -/
def fnNotebooksUptoCard : Claim7 := { stood := { row := fnNotebooksUptoRow, standIns := [], harness := (true, "51106fcb48be18009b30bce0ac05e558ec5c1bd3451f886ce75166e3b2f74e9b"), looks := false }, kinds := [], alts := [], laidByText := true, laidKinds := [.data, .data, .data, .data, .pinned], laidTests := true, laidLooks := .later }
def FnNotebooksUptoCardSaid : Prop := Claim7.holds Tryz.pinned (.plain (OpenSpec.upto fnNotebooksSpec)) fnNotebooksUptoCard
end Rows
end Go.Proofs.YtcfnoofghbmiiaaGreatDoor
