/-
  DERIVED. GIVEN WITH THE SEED: THE CARDS: each row of YtombcpghgdabaaaGreatDoorRows.lean that lists a variable, with what it lists TIED to the program's text (the seventh form; the later family's looks); each row that meets fmt, with fmt's text TOLD by the authors' own Lean function (tested against real Go, not proved from fmt's source: count such statements apart). THE CARD IS WHAT COUNTS. Prove the row's statement (the work); the ties are given (YtombcpghgdabaaaGreatDoorTie.lean); close each card by the builder's one call (the guide's Derived/Test/ToyasCard.lean, 'card_holds'). Laid BY PROGRAM, IN A SANDBOX (cutbox-door.mjs). By AI agents, Wed Nov 11 2026. No macro, syntax, notation, axiom, sorry.
-/
import Derived.Test.YtombcpghgdabaaaGreatDoorRows
import GoSem.ClaimSeven
namespace Go.Proofs.YtombcpghgdabaaaGreatDoor
namespace Rows

/-- THE TIED CARD OF 'laws.FnExactReplayEntries'. -/
def fnExactReplayEntriesCard : Claim7 := { stood := { row := fnExactReplayEntriesRow, standIns := [], harness := (true, "09bbc5b45745a936017e98962b67032d417e35f7d40f2c7982e891b5db055a78"), looks := false }, kinds := [], alts := [], laidByText := true, laidKinds := [.data, .data, .data], laidTests := true, laidLooks := .later }
def FnExactReplayEntriesCardSaid : Prop := Claim7.holds Tryz.pinned (.plain (OpenSpec.ofChange fnExactReplayEntriesSpec)) fnExactReplayEntriesCard

/-- THE TIED CARD OF 'laws.FnExactSetByLine'. -/
def fnExactSetByLineCard : Claim7 := { stood := { row := fnExactSetByLineRow, standIns := [], harness := (true, "09bbc5b45745a936017e98962b67032d417e35f7d40f2c7982e891b5db055a78"), looks := false }, kinds := [], alts := [], laidByText := true, laidKinds := [.data, .data, .data, .data, .pinned], laidTests := true, laidLooks := .later }
def FnExactSetByLineCardSaid : Prop := Claim7.holds Tryz.pinned (.plain (OpenSpec.ofChange fnExactSetByLineSpec)) fnExactSetByLineCard

/-- THE TIED CARD OF 'laws.FnExactFindItem'. -/
def fnExactFindItemCard : Claim7 := { stood := { row := fnExactFindItemRow, standIns := [], harness := (true, "09bbc5b45745a936017e98962b67032d417e35f7d40f2c7982e891b5db055a78"), looks := false }, kinds := [], alts := [], laidByText := true, laidKinds := [.data, .data, .data, .data, .pinned], laidTests := true, laidLooks := .later }
def FnExactFindItemCardSaid : Prop := Claim7.holds Tryz.pinned (.plain (OpenSpec.ofChange fnExactFindItemSpec)) fnExactFindItemCard

/-- THE TIED CARD OF 'laws.FnExactEntriesOf'. -/
def fnExactEntriesOfCard : Claim7 := { stood := { row := fnExactEntriesOfRow, standIns := [], harness := (true, "09bbc5b45745a936017e98962b67032d417e35f7d40f2c7982e891b5db055a78"), looks := false }, kinds := [], alts := [], laidByText := true, laidKinds := [.data, .data, .data, .data, .pinned], laidTests := true, laidLooks := .later }
def FnExactEntriesOfCardSaid : Prop := Claim7.holds Tryz.pinned (.plain (OpenSpec.ofChange fnExactEntriesOfSpec)) fnExactEntriesOfCard

/-- THE TIED CARD OF 'laws.FnExactAppendEntry'. -/
def fnExactAppendEntryCard : Claim7 := { stood := { row := fnExactAppendEntryRow, standIns := [], harness := (true, "09bbc5b45745a936017e98962b67032d417e35f7d40f2c7982e891b5db055a78"), looks := false }, kinds := [], alts := [], laidByText := true, laidKinds := [.data, .data, .data, .data, .pinned], laidTests := true, laidLooks := .later }
def FnExactAppendEntryCardSaid : Prop := Claim7.holds Tryz.pinned (.plain (OpenSpec.ofChange fnExactAppendEntrySpec)) fnExactAppendEntryCard

/-- THE TIED CARD OF 'laws.FnExactCompactNotebook'. -/
def fnExactCompactNotebookCard : Claim7 := { stood := { row := fnExactCompactNotebookRow, standIns := [], harness := (true, "09bbc5b45745a936017e98962b67032d417e35f7d40f2c7982e891b5db055a78"), looks := false }, kinds := [], alts := [], laidByText := true, laidKinds := [.data, .data, .data, .data, .pinned], laidTests := true, laidLooks := .later }
def FnExactCompactNotebookCardSaid : Prop := Claim7.holds Tryz.pinned (.plain (OpenSpec.ofChange fnExactCompactNotebookSpec)) fnExactCompactNotebookCard

/-- THE TIED CARD OF 'laws.FnExactClaimedFormulas'. -/
def fnExactClaimedFormulasCard : Claim7 := { stood := { row := fnExactClaimedFormulasRow, standIns := [], harness := (true, "09bbc5b45745a936017e98962b67032d417e35f7d40f2c7982e891b5db055a78"), looks := false }, kinds := [], alts := [], laidByText := true, laidKinds := [.data, .data, .data, .data, .pinned], laidTests := true, laidLooks := .later }
def FnExactClaimedFormulasCardSaid : Prop := Claim7.holds Tryz.pinned (.plain (OpenSpec.ofChange fnExactClaimedFormulasSpec)) fnExactClaimedFormulasCard

/-- THE TIED CARD OF 'laws.FnExactReadNotebook'. -/
def fnExactReadNotebookCard : Claim7 := { stood := { row := fnExactReadNotebookRow, standIns := [], harness := (true, "09bbc5b45745a936017e98962b67032d417e35f7d40f2c7982e891b5db055a78"), looks := false }, kinds := [], alts := [], laidByText := true, laidKinds := [.data, .data, .data, .data, .pinned], laidTests := true, laidLooks := .later }
def FnExactReadNotebookCardSaid : Prop := Claim7.holds Tryz.pinned (.plain (OpenSpec.ofChange fnExactReadNotebookSpec)) fnExactReadNotebookCard

/-- THE TIED CARD OF 'laws.FnExactNotebookAt'. -/
def fnExactNotebookAtCard : Claim7 := { stood := { row := fnExactNotebookAtRow, standIns := [], harness := (true, "09bbc5b45745a936017e98962b67032d417e35f7d40f2c7982e891b5db055a78"), looks := false }, kinds := [], alts := [], laidByText := true, laidKinds := [.data, .data, .data, .data, .pinned], laidTests := true, laidLooks := .later }
def FnExactNotebookAtCardSaid : Prop := Claim7.holds Tryz.pinned (.plain (OpenSpec.ofChange fnExactNotebookAtSpec)) fnExactNotebookAtCard

/-- THE TIED CARD OF 'laws.FnExactMergeNotebooks'. -/
def fnExactMergeNotebooksCard : Claim7 := { stood := { row := fnExactMergeNotebooksRow, standIns := [], harness := (true, "09bbc5b45745a936017e98962b67032d417e35f7d40f2c7982e891b5db055a78"), looks := false }, kinds := [], alts := [], laidByText := true, laidKinds := [.data, .data, .data, .data, .pinned], laidTests := true, laidLooks := .later }
def FnExactMergeNotebooksCardSaid : Prop := Claim7.holds Tryz.pinned (.plain (OpenSpec.ofChange fnExactMergeNotebooksSpec)) fnExactMergeNotebooksCard

/-- THE SECOND FORM's CARD OF 'laws.FnExactReplayEntries'. -/
def fnExactReplayEntriesUptoCard : Claim7 := { stood := { row := fnExactReplayEntriesUptoRow, standIns := [], harness := (true, "09bbc5b45745a936017e98962b67032d417e35f7d40f2c7982e891b5db055a78"), looks := false }, kinds := [], alts := [], laidByText := true, laidKinds := [.data, .data, .data], laidTests := true, laidLooks := .later }
def FnExactReplayEntriesUptoCardSaid : Prop := Claim7.holds Tryz.pinned (.plain (OpenSpec.upto fnExactReplayEntriesSpec)) fnExactReplayEntriesUptoCard

/-- THE SECOND FORM's CARD OF 'laws.FnExactSetByLine'. -/
def fnExactSetByLineUptoCard : Claim7 := { stood := { row := fnExactSetByLineUptoRow, standIns := [], harness := (true, "09bbc5b45745a936017e98962b67032d417e35f7d40f2c7982e891b5db055a78"), looks := false }, kinds := [], alts := [], laidByText := true, laidKinds := [.data, .data, .data, .data, .pinned], laidTests := true, laidLooks := .later }
def FnExactSetByLineUptoCardSaid : Prop := Claim7.holds Tryz.pinned (.plain (OpenSpec.upto fnExactSetByLineSpec)) fnExactSetByLineUptoCard

/-- THE SECOND FORM's CARD OF 'laws.FnExactFindItem'. -/
def fnExactFindItemUptoCard : Claim7 := { stood := { row := fnExactFindItemUptoRow, standIns := [], harness := (true, "09bbc5b45745a936017e98962b67032d417e35f7d40f2c7982e891b5db055a78"), looks := false }, kinds := [], alts := [], laidByText := true, laidKinds := [.data, .data, .data, .data, .pinned], laidTests := true, laidLooks := .later }
def FnExactFindItemUptoCardSaid : Prop := Claim7.holds Tryz.pinned (.plain (OpenSpec.upto fnExactFindItemSpec)) fnExactFindItemUptoCard

/-- THE SECOND FORM's CARD OF 'laws.FnExactEntriesOf'. -/
def fnExactEntriesOfUptoCard : Claim7 := { stood := { row := fnExactEntriesOfUptoRow, standIns := [], harness := (true, "09bbc5b45745a936017e98962b67032d417e35f7d40f2c7982e891b5db055a78"), looks := false }, kinds := [], alts := [], laidByText := true, laidKinds := [.data, .data, .data, .data, .pinned], laidTests := true, laidLooks := .later }
def FnExactEntriesOfUptoCardSaid : Prop := Claim7.holds Tryz.pinned (.plain (OpenSpec.upto fnExactEntriesOfSpec)) fnExactEntriesOfUptoCard

/-- THE SECOND FORM's CARD OF 'laws.FnExactAppendEntry'. -/
def fnExactAppendEntryUptoCard : Claim7 := { stood := { row := fnExactAppendEntryUptoRow, standIns := [], harness := (true, "09bbc5b45745a936017e98962b67032d417e35f7d40f2c7982e891b5db055a78"), looks := false }, kinds := [], alts := [], laidByText := true, laidKinds := [.data, .data, .data, .data, .pinned], laidTests := true, laidLooks := .later }
def FnExactAppendEntryUptoCardSaid : Prop := Claim7.holds Tryz.pinned (.plain (OpenSpec.upto fnExactAppendEntrySpec)) fnExactAppendEntryUptoCard

/-- THE SECOND FORM's CARD OF 'laws.FnExactCompactNotebook'. -/
def fnExactCompactNotebookUptoCard : Claim7 := { stood := { row := fnExactCompactNotebookUptoRow, standIns := [], harness := (true, "09bbc5b45745a936017e98962b67032d417e35f7d40f2c7982e891b5db055a78"), looks := false }, kinds := [], alts := [], laidByText := true, laidKinds := [.data, .data, .data, .data, .pinned], laidTests := true, laidLooks := .later }
def FnExactCompactNotebookUptoCardSaid : Prop := Claim7.holds Tryz.pinned (.plain (OpenSpec.upto fnExactCompactNotebookSpec)) fnExactCompactNotebookUptoCard

/-- THE SECOND FORM's CARD OF 'laws.FnExactClaimedFormulas'. -/
def fnExactClaimedFormulasUptoCard : Claim7 := { stood := { row := fnExactClaimedFormulasUptoRow, standIns := [], harness := (true, "09bbc5b45745a936017e98962b67032d417e35f7d40f2c7982e891b5db055a78"), looks := false }, kinds := [], alts := [], laidByText := true, laidKinds := [.data, .data, .data, .data, .pinned], laidTests := true, laidLooks := .later }
def FnExactClaimedFormulasUptoCardSaid : Prop := Claim7.holds Tryz.pinned (.plain (OpenSpec.upto fnExactClaimedFormulasSpec)) fnExactClaimedFormulasUptoCard

/-- THE SECOND FORM's CARD OF 'laws.FnExactReadNotebook'. -/
def fnExactReadNotebookUptoCard : Claim7 := { stood := { row := fnExactReadNotebookUptoRow, standIns := [], harness := (true, "09bbc5b45745a936017e98962b67032d417e35f7d40f2c7982e891b5db055a78"), looks := false }, kinds := [], alts := [], laidByText := true, laidKinds := [.data, .data, .data, .data, .pinned], laidTests := true, laidLooks := .later }
def FnExactReadNotebookUptoCardSaid : Prop := Claim7.holds Tryz.pinned (.plain (OpenSpec.upto fnExactReadNotebookSpec)) fnExactReadNotebookUptoCard

/-- THE SECOND FORM's CARD OF 'laws.FnExactNotebookAt'. -/
def fnExactNotebookAtUptoCard : Claim7 := { stood := { row := fnExactNotebookAtUptoRow, standIns := [], harness := (true, "09bbc5b45745a936017e98962b67032d417e35f7d40f2c7982e891b5db055a78"), looks := false }, kinds := [], alts := [], laidByText := true, laidKinds := [.data, .data, .data, .data, .pinned], laidTests := true, laidLooks := .later }
def FnExactNotebookAtUptoCardSaid : Prop := Claim7.holds Tryz.pinned (.plain (OpenSpec.upto fnExactNotebookAtSpec)) fnExactNotebookAtUptoCard

/-- THE SECOND FORM's CARD OF 'laws.FnExactMergeNotebooks'. -/
def fnExactMergeNotebooksUptoCard : Claim7 := { stood := { row := fnExactMergeNotebooksUptoRow, standIns := [], harness := (true, "09bbc5b45745a936017e98962b67032d417e35f7d40f2c7982e891b5db055a78"), looks := false }, kinds := [], alts := [], laidByText := true, laidKinds := [.data, .data, .data, .data, .pinned], laidTests := true, laidLooks := .later }
def FnExactMergeNotebooksUptoCardSaid : Prop := Claim7.holds Tryz.pinned (.plain (OpenSpec.upto fnExactMergeNotebooksSpec)) fnExactMergeNotebooksUptoCard
end Rows
end Go.Proofs.YtombcpghgdabaaaGreatDoor
