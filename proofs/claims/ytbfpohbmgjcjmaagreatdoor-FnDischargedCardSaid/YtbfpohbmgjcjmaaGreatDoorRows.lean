/-
  NARROWER THAN 'FOR EVERY INPUT', by the rows' own cells (each row's printed sentence says how): FnDischarged: laid.
  DERIVED. THE GIVEN ROWS OF THIS SEAT. 1 by the template 'for every input the law returns true; each argument reads behind the call as it read before'; 0 by the template 'total and deterministic' (their statements: YtbfpohbmgjcjmaaGreatDoorTotals.lean).
  GIVEN WITH THE SEED: the statements are not yours to turn. If you find one false, say at which input.
  Laid BY PROGRAM, IN A SANDBOX (cutbox-rows.mjs): the forced cells as the released guide's own fill.sh prints them over the translation e5808717f3173393… (all of the seat's roots in one cut). By AI agents, Wed Nov 11 2026. No macro, syntax, notation, axiom, sorry.
-/
import Derived.Test.YtbfpohbmgjcjmaaGreatDoorChecked
import GoSem.Claim
import GoSem.ClaimJoined
import GoSem.ClaimMapViews
import Derived.JoinedTies
import Derived.KernelRfl
namespace Go.Proofs.YtbfpohbmgjcjmaaGreatDoor
/- THE CELL 'sum', in the pinned program and in every row, IS THE sha256 OF THE DUMP (.gsa) THAT YtbfpohbmgjcjmaaGreatDoorProg.lean LOADS. Nothing in Lean hashes anything: it is a label: what it is worth is what the hold of that sum in a sandbox is worth. -/
noncomputable def Tryz.pinned : Pinned := { name := "ytbfpohbmgjcjmaagreatdoor", sum := "e5808717f317339314d55a08746d728d72403f396dada9abf502245f5c991821", checked := Tryz.checked }
namespace Rows
def none {H : Type} : Left H := { results := [], args := [] }

/- WHAT THE LISTED PACKAGE-LEVEL VARIABLES READ AS WHEN THE CALL BEGINS. Each datum BY PROGRAM (the guide's laid-datum.mjs) off the statement by which the dump's own 'gosem.cut.vars' lays the variable. In a bare row this is a premise. The card (YtbfpohbmgjcjmaaGreatDoorCards.lean) ties it to the program's text. -/
def laid_loop_example_g01089_impl_schemeTexts {H : Type} : DataW H := .agg [.lit (.string [112, 62, 113, 62, 112]), .lit (.string [40, 112, 62, 113, 62, 114, 41, 62, 40, 112, 62, 113, 41, 62, 112, 62, 114]), .lit (.string [112, 38, 113, 62, 112]), .lit (.string [112, 38, 113, 62, 113]), .lit (.string [112, 62, 113, 62, 112, 38, 113]), .lit (.string [112, 62, 112, 124, 113]), .lit (.string [113, 62, 112, 124, 113]), .lit (.string [40, 112, 62, 114, 41, 62, 40, 113, 62, 114, 41, 62, 112, 124, 113, 62, 114]), .lit (.string [70, 62, 112]), .lit (.string [126, 126, 112, 62, 112]), .lit (.string [91, 93, 40, 112, 62, 113, 41, 62, 91, 93, 112, 62, 91, 93, 113]), .lit (.string [60, 62, 112, 62, 126, 91, 93, 126, 112]), .lit (.string [126, 91, 93, 126, 112, 62, 60, 62, 112]), .lit (.string [91, 93, 112, 62, 112]), .lit (.string [91, 93, 112, 62, 91, 93, 91, 93, 112]), .lit (.string [60, 62, 112, 62, 91, 93, 60, 62, 112]), .lit (.string [112, 62, 91, 93, 60, 62, 112]), .lit (.string [91, 93, 112, 62, 60, 62, 112]), .lit (.string [91, 93, 40, 91, 93, 112, 62, 112, 41, 62, 91, 93, 112])]

/-- 'laws.FnDischarged': WHATEVER THE INPUT: true; the input reads as it did. -/
def fnDischargedSpec : ChangeSpec := { name := "fnDischarged", vars := ["loop.example/g01089/impl.schemeTexts"], fn := fun _ => fun
  | [d, g1] => { results := [.lit (.bool true)], args := [d], vars := [g1] }
  | _ => none }
def fnDischargedRow : OpenClaim := { program := "ytbfpohbmgjcjmaagreatdoor", sum := "e5808717f317339314d55a08746d728d72403f396dada9abf502245f5c991821", func := "loop.example/g01089/laws.FnDischarged", spec := "fnDischarged", unfollowed := true, recurses := true, named := ["loop.example/g01089/impl.schemeTexts"], apart := false, laid := [("loop.example/g01089/impl.schemeTexts", laid_loop_example_g01089_impl_schemeTexts)] }
def FnDischargedSaid : Prop := fnDischargedRow.holds Tryz.pinned (OpenSpec.ofChange fnDischargedSpec)

/-- ITS FALSE NEIGHBOUR: 'it returns false'. Refute it at one input. -/
def fnDischargedWrong : ChangeSpec := { name := "fnDischarged", vars := ["loop.example/g01089/impl.schemeTexts"], fn := fun _ => fun
  | [d, g1] => { results := [.lit (.bool false)], args := [d], vars := [g1] }
  | _ => none }
def FnDischargedWrongFalsely : Prop := fnDischargedRow.holds Tryz.pinned (OpenSpec.ofChange fnDischargedWrong)

/- THE SECOND FORM. 'bulk': how many values and letters a reading holds, each counted each time it is reached (what is shared counts as often as it is met; a slice's spare places count too). A statement '..UptoSaid' is the law's where the arguments, and the package variables that the reading takes, are together of bulk at most 1048576: NARROWER than '..Said'. Prove '..Said' where nothing that the law and all that it calls make is longer than what came in: it says more and counts as full. Else prove '..UptoSaid'. A law counts once. -/
mutual
def uptoBulk {H : Type} : DataW H → Nat
  | .lit (.string bytes) => bytes.length + 1
  | .lit _ => 1
  | .nil => 1
  | .ptr d => uptoBulk d + 1
  | .slice elems spare => uptoBulkAll elems + uptoBulkAll spare + 1
  | .agg parts => uptoBulkAll parts + 1
  | .iface _ d => uptoBulk d + 1
  | .map entries => uptoBulkEntries entries + 1
  | .held _ => 1
def uptoBulkAll {H : Type} : List (DataW H) → Nat
  | [] => 0
  | d :: r => uptoBulk d + uptoBulkAll r
def uptoBulkEntries {H : Type} : List (Lit × DataW H) → Nat
  | [] => 0
  | x :: r => uptoBulkEntry x + uptoBulkEntries r
def uptoBulkEntry {H : Type} : Lit × DataW H → Nat
  | (.string bytes, d) => bytes.length + uptoBulk d + 1
  | (_, d) => uptoBulk d + 1
 end
def uptoSmall : (H : Type) → List (DataW H) → Bool := fun _ ds => decide (uptoBulkAll ds ≤ 1048576)
def OpenSpec.upto (s : _root_.Go.ChangeSpec) : _root_.Go.OpenSpec := { _root_.Go.OpenSpec.ofChange s with cond := some uptoSmall }

/-- 'laws.FnDischarged', WHERE WHAT IT READS IS OF BULK AT MOST 1048576: true; the input reads as it did. -/
def fnDischargedUptoRow : OpenClaim := { program := "ytbfpohbmgjcjmaagreatdoor", sum := "e5808717f317339314d55a08746d728d72403f396dada9abf502245f5c991821", func := "loop.example/g01089/laws.FnDischarged", spec := "fnDischarged", unfollowed := true, recurses := true, named := ["loop.example/g01089/impl.schemeTexts"], apart := false, laid := [("loop.example/g01089/impl.schemeTexts", laid_loop_example_g01089_impl_schemeTexts)], narrowed := true }
def FnDischargedUptoSaid : Prop := fnDischargedUptoRow.holds Tryz.pinned (OpenSpec.upto fnDischargedSpec)

end Rows
end Go.Proofs.YtbfpohbmgjcjmaaGreatDoor
