/-
  DERIVED. GIVEN WITH THE SEED: THE CARDS: each row of YtapdkkijoflcpaaGreatDoorRows.lean that lists a variable, with what it lists TIED to the program's text (the seventh form; the later family's looks); each row that meets fmt, with fmt's text TOLD by the authors' own Lean function (tested against real Go, not proved from fmt's source: count such statements apart). THE CARD IS WHAT COUNTS. Prove the row's statement (the work); the ties are given (YtapdkkijoflcpaaGreatDoorTie.lean); close each card by the builder's one call (the guide's Derived/Test/ToyasCard.lean, 'card_holds'). Laid BY PROGRAM, IN A SANDBOX (cutbox-door.mjs). By AI agents, Wed Nov 11 2026. No macro, syntax, notation, axiom, sorry.
-/
import Derived.Test.YtapdkkijoflcpaaGreatDoorRows
import GoSem.ClaimSeven
namespace Go.Proofs.YtapdkkijoflcpaaGreatDoor
namespace Rows

/-- THE TIED CARD OF 'laws.FnCrashes'. -/
def fnCrashesCard : Claim7 := { stood := { row := fnCrashesRow, standIns := [], harness := (true, "b3cf8e31be6710fc1b5781431c79df29ae7659602633fd4c55629a952e3a70d7"), looks := false }, kinds := [], alts := [], laidByText := true, laidKinds := [.data, .data, .data, .data, .pinned], laidTests := true, laidLooks := .later }
def FnCrashesCardSaid : Prop := Claim7.holds Tryz.pinned (.plain (OpenSpec.ofChange fnCrashesSpec)) fnCrashesCard

/-- THE SECOND FORM's CARD OF 'laws.FnCrashes'. -/
def fnCrashesUptoCard : Claim7 := { stood := { row := fnCrashesUptoRow, standIns := [], harness := (true, "b3cf8e31be6710fc1b5781431c79df29ae7659602633fd4c55629a952e3a70d7"), looks := false }, kinds := [], alts := [], laidByText := true, laidKinds := [.data, .data, .data, .data, .pinned], laidTests := true, laidLooks := .later }
def FnCrashesUptoCardSaid : Prop := Claim7.holds Tryz.pinned (.plain (OpenSpec.upto fnCrashesSpec)) fnCrashesUptoCard
end Rows
end Go.Proofs.YtapdkkijoflcpaaGreatDoor
