/-
  DERIVED. GIVEN WITH THE SEED: THE CARDS: each row of YtnbelddmhlknkaaDoorRows.lean that lists a variable, with what it lists TIED to the program's text (the seventh form; the later family's looks); each row that meets fmt, with fmt's text TOLD by the authors' own Lean function (tested against real Go, not proved from fmt's source: count such statements apart). THE CARD IS WHAT COUNTS. Prove the row's statement (the work); the ties are given (YtnbelddmhlknkaaDoorTie.lean); close each card by the builder's one call (the guide's Derived/Test/ToyasCard.lean, 'card_holds'). Laid BY PROGRAM, IN A SANDBOX (cutbox-door.mjs). By AI agents, Wed Nov 11 2026. No macro, syntax, notation, axiom, sorry.
-/
import Derived.Test.YtnbelddmhlknkaaDoorRows
import GoSem.ClaimSeven
namespace Go.Proofs.YtnbelddmhlknkaaDoor
namespace Rows

/-- THE TIED CARD OF 'laws.FnExactIsQuery'. -/
def fnExactIsQueryCard : Claim7 := { stood := { row := fnExactIsQueryRow, standIns := [], harness := (true, "5f6d54abfbb8c0b0bdd66551b6b8e26b2505e278b23e822af3aad56a8d87887e"), looks := false }, kinds := [], alts := [], laidByText := true, laidKinds := [.data, .data, .pinned], laidTests := true, laidLooks := .later }
def FnExactIsQueryCardSaid : Prop := Claim7.holds Tryd.pinned (.plain (OpenSpec.ofChange fnExactIsQuerySpec)) fnExactIsQueryCard

/-- THE TIED CARD OF 'laws.FnExactIsConsoleLine'. -/
def fnExactIsConsoleLineCard : Claim7 := { stood := { row := fnExactIsConsoleLineRow, standIns := [], harness := (true, "5f6d54abfbb8c0b0bdd66551b6b8e26b2505e278b23e822af3aad56a8d87887e"), looks := false }, kinds := [], alts := [], laidByText := true, laidKinds := [.data, .data, .pinned], laidTests := true, laidLooks := .later }
def FnExactIsConsoleLineCardSaid : Prop := Claim7.holds Tryd.pinned (.plain (OpenSpec.ofChange fnExactIsConsoleLineSpec)) fnExactIsConsoleLineCard

/-- THE SECOND FORM's CARD OF 'laws.FnExactIsQuery'. -/
def fnExactIsQueryUptoCard : Claim7 := { stood := { row := fnExactIsQueryUptoRow, standIns := [], harness := (true, "5f6d54abfbb8c0b0bdd66551b6b8e26b2505e278b23e822af3aad56a8d87887e"), looks := false }, kinds := [], alts := [], laidByText := true, laidKinds := [.data, .data, .pinned], laidTests := true, laidLooks := .later }
def FnExactIsQueryUptoCardSaid : Prop := Claim7.holds Tryd.pinned (.plain (OpenSpec.upto fnExactIsQuerySpec)) fnExactIsQueryUptoCard

/-- THE SECOND FORM's CARD OF 'laws.FnExactIsConsoleLine'. -/
def fnExactIsConsoleLineUptoCard : Claim7 := { stood := { row := fnExactIsConsoleLineUptoRow, standIns := [], harness := (true, "5f6d54abfbb8c0b0bdd66551b6b8e26b2505e278b23e822af3aad56a8d87887e"), looks := false }, kinds := [], alts := [], laidByText := true, laidKinds := [.data, .data, .pinned], laidTests := true, laidLooks := .later }
def FnExactIsConsoleLineUptoCardSaid : Prop := Claim7.holds Tryd.pinned (.plain (OpenSpec.upto fnExactIsConsoleLineSpec)) fnExactIsConsoleLineUptoCard
end Rows
end Go.Proofs.YtnbelddmhlknkaaDoor
