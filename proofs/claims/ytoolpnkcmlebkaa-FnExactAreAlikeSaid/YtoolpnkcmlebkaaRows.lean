/-
  No cell of these rows narrows 'for every input' (looked for: loops, veiled, ifaces, maps, wideKeys, modest, calm, conditions, laid).
  DERIVED. THE GIVEN ROWS OF THIS SEAT. 4 by the template 'for every input the law returns true; each argument reads behind the call as it read before'; 0 by the template 'total and deterministic' (their statements: YtoolpnkcmlebkaaTotals.lean).
  GIVEN WITH THE SEED: the statements are not yours to turn. If you find one false, say at which input.
  Laid BY PROGRAM, IN A SANDBOX (cutbox-rows.mjs): the forced cells as the released guide's own fill.sh prints them over the translation c87c07696b76c13c… (all of the seat's roots in one cut). By AI agents, Wed Nov 11 2026. No macro, syntax, notation, axiom, sorry.
-/
import Derived.Test.YtoolpnkcmlebkaaChecked
import GoSem.Claim
import GoSem.ClaimJoined
import GoSem.ClaimMapViews
import Derived.JoinedTies
import Derived.KernelRfl
namespace Go.Proofs.Ytoolpnkcmlebkaa
/- THE CELL 'sum', in the pinned program and in every row, IS THE sha256 OF THE DUMP (.gsa) THAT YtoolpnkcmlebkaaProg.lean LOADS. Nothing in Lean hashes anything: it is a label: what it is worth is what the hold of that sum in a sandbox is worth. -/
noncomputable def Try.pinned : Pinned := { name := "ytoolpnkcmlebkaa", sum := "c87c07696b76c13c0a3cfe77d69a16eac784b8e5826c1a72c6283ec66507652b", checked := Try.checked }
namespace Rows
def none {H : Type} : Left H := { results := [], args := [] }

/-- 'laws.FnExactFindPart': WHATEVER THE INPUT: true; the input reads as it did. -/
def fnExactFindPartSpec : ChangeSpec := { name := "fnExactFindPart", fn := fun _ => fun
  | [d1, d2] => { results := [.lit (.bool true)], args := [d1, d2] }
  | _ => none }
def fnExactFindPartRow : OpenClaim := { program := "ytoolpnkcmlebkaa", sum := "c87c07696b76c13c0a3cfe77d69a16eac784b8e5826c1a72c6283ec66507652b", func := "loop.example/g01089/laws.FnExactFindPart", spec := "fnExactFindPart", unfollowed := true, recurses := true, apart := false }
def FnExactFindPartSaid : Prop := fnExactFindPartRow.holds Try.pinned (OpenSpec.ofChange fnExactFindPartSpec)

/-- ITS FALSE NEIGHBOUR: 'it returns false'. Refute it at one input. -/
def fnExactFindPartWrong : ChangeSpec := { name := "fnExactFindPart", fn := fun _ => fun
  | [d1, d2] => { results := [.lit (.bool false)], args := [d1, d2] }
  | _ => none }
def FnExactFindPartWrongFalsely : Prop := fnExactFindPartRow.holds Try.pinned (OpenSpec.ofChange fnExactFindPartWrong)

/-- 'laws.FnExactTellingElements': WHATEVER THE INPUT: true; the input reads as it did. -/
def fnExactTellingElementsSpec : ChangeSpec := { name := "fnExactTellingElements", fn := fun _ => fun
  | [d1, d2] => { results := [.lit (.bool true)], args := [d1, d2] }
  | _ => none }
def fnExactTellingElementsRow : OpenClaim := { program := "ytoolpnkcmlebkaa", sum := "c87c07696b76c13c0a3cfe77d69a16eac784b8e5826c1a72c6283ec66507652b", func := "loop.example/g01089/laws.FnExactTellingElements", spec := "fnExactTellingElements", unfollowed := true, recurses := true, apart := false }
def FnExactTellingElementsSaid : Prop := fnExactTellingElementsRow.holds Try.pinned (OpenSpec.ofChange fnExactTellingElementsSpec)

/-- ITS FALSE NEIGHBOUR: 'it returns false'. Refute it at one input. -/
def fnExactTellingElementsWrong : ChangeSpec := { name := "fnExactTellingElements", fn := fun _ => fun
  | [d1, d2] => { results := [.lit (.bool false)], args := [d1, d2] }
  | _ => none }
def FnExactTellingElementsWrongFalsely : Prop := fnExactTellingElementsRow.holds Try.pinned (OpenSpec.ofChange fnExactTellingElementsWrong)

/-- 'laws.FnExactIsUnder': WHATEVER THE INPUT: true; the input reads as it did. -/
def fnExactIsUnderSpec : ChangeSpec := { name := "fnExactIsUnder", fn := fun _ => fun
  | [d1, d2] => { results := [.lit (.bool true)], args := [d1, d2] }
  | _ => none }
def fnExactIsUnderRow : OpenClaim := { program := "ytoolpnkcmlebkaa", sum := "c87c07696b76c13c0a3cfe77d69a16eac784b8e5826c1a72c6283ec66507652b", func := "loop.example/g01089/laws.FnExactIsUnder", spec := "fnExactIsUnder", unfollowed := true, recurses := true, apart := false }
def FnExactIsUnderSaid : Prop := fnExactIsUnderRow.holds Try.pinned (OpenSpec.ofChange fnExactIsUnderSpec)

/-- ITS FALSE NEIGHBOUR: 'it returns false'. Refute it at one input. -/
def fnExactIsUnderWrong : ChangeSpec := { name := "fnExactIsUnder", fn := fun _ => fun
  | [d1, d2] => { results := [.lit (.bool false)], args := [d1, d2] }
  | _ => none }
def FnExactIsUnderWrongFalsely : Prop := fnExactIsUnderRow.holds Try.pinned (OpenSpec.ofChange fnExactIsUnderWrong)

/-- 'laws.FnExactAreAlike': WHATEVER THE INPUT: true; the input reads as it did. -/
def fnExactAreAlikeSpec : ChangeSpec := { name := "fnExactAreAlike", fn := fun _ => fun
  | [d1, d2] => { results := [.lit (.bool true)], args := [d1, d2] }
  | _ => none }
def fnExactAreAlikeRow : OpenClaim := { program := "ytoolpnkcmlebkaa", sum := "c87c07696b76c13c0a3cfe77d69a16eac784b8e5826c1a72c6283ec66507652b", func := "loop.example/g01089/laws.FnExactAreAlike", spec := "fnExactAreAlike", unfollowed := true, recurses := true, apart := false }
def FnExactAreAlikeSaid : Prop := fnExactAreAlikeRow.holds Try.pinned (OpenSpec.ofChange fnExactAreAlikeSpec)

/-- ITS FALSE NEIGHBOUR: 'it returns false'. Refute it at one input. -/
def fnExactAreAlikeWrong : ChangeSpec := { name := "fnExactAreAlike", fn := fun _ => fun
  | [d1, d2] => { results := [.lit (.bool false)], args := [d1, d2] }
  | _ => none }
def FnExactAreAlikeWrongFalsely : Prop := fnExactAreAlikeRow.holds Try.pinned (OpenSpec.ofChange fnExactAreAlikeWrong)

/- THE SECOND FORM. 'bulk': how many values and letters a reading holds, each counted each time it is reached (what is shared counts as often as it is met; a slice's spare places count too). A statement '..UptoSaid' is the law's where the arguments, and the package variables that the reading takes, are together of bulk at most 1048576: NARROWER than '..Said'. Prove '..Said' where nothing that the law and all that it calls make is longer than what came in: it says more and counts as full. Else prove '..UptoSaid'. A law counts once. -/
mutual
def uptoBulk {H : Type} : DataW H → Nat
  | .lit (.string bytes) => bytes.length + 1
  | .lit _ => 1
  | .nil => 1
  | .ptr d => uptoBulk d + 1
  | .slice elems spare => uptoBulkAll elems + uptoBulkAll spare + 1
  | .agg parts => uptoBulkAll parts + 1
  | .iface _ d => uptoBulk d + 1
  | .map entries => uptoBulkEntries entries + 1
  | .held _ => 1
def uptoBulkAll {H : Type} : List (DataW H) → Nat
  | [] => 0
  | d :: r => uptoBulk d + uptoBulkAll r
def uptoBulkEntries {H : Type} : List (Lit × DataW H) → Nat
  | [] => 0
  | x :: r => uptoBulkEntry x + uptoBulkEntries r
def uptoBulkEntry {H : Type} : Lit × DataW H → Nat
  | (.string bytes, d) => bytes.length + uptoBulk d + 1
  | (_, d) => uptoBulk d + 1
 end
def uptoSmall : (H : Type) → List (DataW H) → Bool := fun _ ds => decide (uptoBulkAll ds ≤ 1048576)
def OpenSpec.upto (s : _root_.Go.ChangeSpec) : _root_.Go.OpenSpec := { _root_.Go.OpenSpec.ofChange s with cond := some uptoSmall }

/-- 'laws.FnExactFindPart', WHERE WHAT IT READS IS OF BULK AT MOST 1048576: true; the input reads as it did. -/
def fnExactFindPartUptoRow : OpenClaim := { program := "ytoolpnkcmlebkaa", sum := "c87c07696b76c13c0a3cfe77d69a16eac784b8e5826c1a72c6283ec66507652b", func := "loop.example/g01089/laws.FnExactFindPart", spec := "fnExactFindPart", unfollowed := true, recurses := true, apart := false, narrowed := true }
def FnExactFindPartUptoSaid : Prop := fnExactFindPartUptoRow.holds Try.pinned (OpenSpec.upto fnExactFindPartSpec)

/-- 'laws.FnExactTellingElements', WHERE WHAT IT READS IS OF BULK AT MOST 1048576: true; the input reads as it did. -/
def fnExactTellingElementsUptoRow : OpenClaim := { program := "ytoolpnkcmlebkaa", sum := "c87c07696b76c13c0a3cfe77d69a16eac784b8e5826c1a72c6283ec66507652b", func := "loop.example/g01089/laws.FnExactTellingElements", spec := "fnExactTellingElements", unfollowed := true, recurses := true, apart := false, narrowed := true }
def FnExactTellingElementsUptoSaid : Prop := fnExactTellingElementsUptoRow.holds Try.pinned (OpenSpec.upto fnExactTellingElementsSpec)

/-- 'laws.FnExactIsUnder', WHERE WHAT IT READS IS OF BULK AT MOST 1048576: true; the input reads as it did. -/
def fnExactIsUnderUptoRow : OpenClaim := { program := "ytoolpnkcmlebkaa", sum := "c87c07696b76c13c0a3cfe77d69a16eac784b8e5826c1a72c6283ec66507652b", func := "loop.example/g01089/laws.FnExactIsUnder", spec := "fnExactIsUnder", unfollowed := true, recurses := true, apart := false, narrowed := true }
def FnExactIsUnderUptoSaid : Prop := fnExactIsUnderUptoRow.holds Try.pinned (OpenSpec.upto fnExactIsUnderSpec)

/-- 'laws.FnExactAreAlike', WHERE WHAT IT READS IS OF BULK AT MOST 1048576: true; the input reads as it did. -/
def fnExactAreAlikeUptoRow : OpenClaim := { program := "ytoolpnkcmlebkaa", sum := "c87c07696b76c13c0a3cfe77d69a16eac784b8e5826c1a72c6283ec66507652b", func := "loop.example/g01089/laws.FnExactAreAlike", spec := "fnExactAreAlike", unfollowed := true, recurses := true, apart := false, narrowed := true }
def FnExactAreAlikeUptoSaid : Prop := fnExactAreAlikeUptoRow.holds Try.pinned (OpenSpec.upto fnExactAreAlikeSpec)

end Rows
end Go.Proofs.Ytoolpnkcmlebkaa
