/-
  No cell of these rows narrows 'for every input' (looked for: loops, veiled, ifaces, maps, wideKeys, modest, calm, conditions, laid).
  DERIVED. THE GIVEN ROWS OF THIS SEAT. 4 by the template 'for every input the law returns true; each argument reads behind the call as it read before'; 0 by the template 'total and deterministic' (their statements: YtikfhibcdhdglaaGreatTotals.lean).
  GIVEN WITH THE SEED: the statements are not yours to turn. If you find one false, say at which input.
  Laid BY PROGRAM, IN A SANDBOX (cutbox-rows.mjs): the forced cells as the released guide's own fill.sh prints them over the translation 0cca9af8e5468393… (all of the seat's roots in one cut). By AI agents, Wed Nov 11 2026. No macro, syntax, notation, axiom, sorry.
-/
import Derived.Test.YtikfhibcdhdglaaGreatChecked
import GoSem.Claim
import GoSem.ClaimJoined
import GoSem.ClaimMapViews
import Derived.JoinedTies
import Derived.KernelRfl
namespace Go.Proofs.YtikfhibcdhdglaaGreat
/- THE CELL 'sum', in the pinned program and in every row, IS THE sha256 OF THE DUMP (.gsa) THAT YtikfhibcdhdglaaGreatProg.lean LOADS. Nothing in Lean hashes anything: it is a label: what it is worth is what the hold of that sum in a sandbox is worth. -/
noncomputable def Tryz.pinned : Pinned := { name := "ytikfhibcdhdglaagreat", sum := "0cca9af8e5468393b707b2dd6b1b1652aa9713f67d550294c736c72a3cf58ce9", checked := Tryz.checked }
namespace Rows
def none {H : Type} : Left H := { results := [], args := [] }

/-- 'laws.FnMorphisms': WHATEVER THE INPUT: true; the input reads as it did. -/
def fnMorphismsSpec : ChangeSpec := { name := "fnMorphisms", fn := fun _ => fun
  | [d] => { results := [.lit (.bool true)], args := [d] }
  | _ => none }
def fnMorphismsRow : OpenClaim := { program := "ytikfhibcdhdglaagreat", sum := "0cca9af8e5468393b707b2dd6b1b1652aa9713f67d550294c736c72a3cf58ce9", func := "loop.example/g01089/laws.FnMorphisms", spec := "fnMorphisms", unfollowed := true, recurses := true, apart := false }
def FnMorphismsSaid : Prop := fnMorphismsRow.holds Tryz.pinned (OpenSpec.ofChange fnMorphismsSpec)

/-- ITS FALSE NEIGHBOUR: 'it returns false'. Refute it at one input. -/
def fnMorphismsWrong : ChangeSpec := { name := "fnMorphisms", fn := fun _ => fun
  | [d] => { results := [.lit (.bool false)], args := [d] }
  | _ => none }
def FnMorphismsWrongFalsely : Prop := fnMorphismsRow.holds Tryz.pinned (OpenSpec.ofChange fnMorphismsWrong)

/-- 'laws.FnJankov': WHATEVER THE INPUT: true; the input reads as it did. -/
def fnJankovSpec : ChangeSpec := { name := "fnJankov", fn := fun _ => fun
  | [d] => { results := [.lit (.bool true)], args := [d] }
  | _ => none }
def fnJankovRow : OpenClaim := { program := "ytikfhibcdhdglaagreat", sum := "0cca9af8e5468393b707b2dd6b1b1652aa9713f67d550294c736c72a3cf58ce9", func := "loop.example/g01089/laws.FnJankov", spec := "fnJankov", unfollowed := true, recurses := true, apart := false }
def FnJankovSaid : Prop := fnJankovRow.holds Tryz.pinned (OpenSpec.ofChange fnJankovSpec)

/-- ITS FALSE NEIGHBOUR: 'it returns false'. Refute it at one input. -/
def fnJankovWrong : ChangeSpec := { name := "fnJankov", fn := fun _ => fun
  | [d] => { results := [.lit (.bool false)], args := [d] }
  | _ => none }
def FnJankovWrongFalsely : Prop := fnJankovRow.holds Tryz.pinned (OpenSpec.ofChange fnJankovWrong)

/-- 'laws.FnQuotients': WHATEVER THE INPUT: true; the input reads as it did. -/
def fnQuotientsSpec : ChangeSpec := { name := "fnQuotients", fn := fun _ => fun
  | [d] => { results := [.lit (.bool true)], args := [d] }
  | _ => none }
def fnQuotientsRow : OpenClaim := { program := "ytikfhibcdhdglaagreat", sum := "0cca9af8e5468393b707b2dd6b1b1652aa9713f67d550294c736c72a3cf58ce9", func := "loop.example/g01089/laws.FnQuotients", spec := "fnQuotients", unfollowed := true, recurses := true, apart := false }
def FnQuotientsSaid : Prop := fnQuotientsRow.holds Tryz.pinned (OpenSpec.ofChange fnQuotientsSpec)

/-- ITS FALSE NEIGHBOUR: 'it returns false'. Refute it at one input. -/
def fnQuotientsWrong : ChangeSpec := { name := "fnQuotients", fn := fun _ => fun
  | [d] => { results := [.lit (.bool false)], args := [d] }
  | _ => none }
def FnQuotientsWrongFalsely : Prop := fnQuotientsRow.holds Tryz.pinned (OpenSpec.ofChange fnQuotientsWrong)

/-- 'laws.FnUnder': WHATEVER THE INPUT: true; the input reads as it did. -/
def fnUnderSpec : ChangeSpec := { name := "fnUnder", fn := fun _ => fun
  | [d] => { results := [.lit (.bool true)], args := [d] }
  | _ => none }
def fnUnderRow : OpenClaim := { program := "ytikfhibcdhdglaagreat", sum := "0cca9af8e5468393b707b2dd6b1b1652aa9713f67d550294c736c72a3cf58ce9", func := "loop.example/g01089/laws.FnUnder", spec := "fnUnder", unfollowed := true, recurses := true, apart := false }
def FnUnderSaid : Prop := fnUnderRow.holds Tryz.pinned (OpenSpec.ofChange fnUnderSpec)

/-- ITS FALSE NEIGHBOUR: 'it returns false'. Refute it at one input. -/
def fnUnderWrong : ChangeSpec := { name := "fnUnder", fn := fun _ => fun
  | [d] => { results := [.lit (.bool false)], args := [d] }
  | _ => none }
def FnUnderWrongFalsely : Prop := fnUnderRow.holds Tryz.pinned (OpenSpec.ofChange fnUnderWrong)

/- THE SECOND FORM. 'bulk': how many values and letters a reading holds, each counted each time it is reached (what is shared counts as often as it is met; a slice's spare places count too). A statement '..UptoSaid' is the law's where the arguments, and the package variables that the reading takes, are together of bulk at most 1048576: NARROWER than '..Said'. Prove '..Said' where nothing that the law and all that it calls make is longer than what came in: it says more and counts as full. Else prove '..UptoSaid'. A law counts once. -/
mutual
def uptoBulk {H : Type} : DataW H → Nat
  | .lit (.string bytes) => bytes.length + 1
  | .lit _ => 1
  | .nil => 1
  | .ptr d => uptoBulk d + 1
  | .slice elems spare => uptoBulkAll elems + uptoBulkAll spare + 1
  | .agg parts => uptoBulkAll parts + 1
  | .iface _ d => uptoBulk d + 1
  | .map entries => uptoBulkEntries entries + 1
  | .held _ => 1
def uptoBulkAll {H : Type} : List (DataW H) → Nat
  | [] => 0
  | d :: r => uptoBulk d + uptoBulkAll r
def uptoBulkEntries {H : Type} : List (Lit × DataW H) → Nat
  | [] => 0
  | x :: r => uptoBulkEntry x + uptoBulkEntries r
def uptoBulkEntry {H : Type} : Lit × DataW H → Nat
  | (.string bytes, d) => bytes.length + uptoBulk d + 1
  | (_, d) => uptoBulk d + 1
 end
def uptoSmall : (H : Type) → List (DataW H) → Bool := fun _ ds => decide (uptoBulkAll ds ≤ 1048576)
def OpenSpec.upto (s : _root_.Go.ChangeSpec) : _root_.Go.OpenSpec := { _root_.Go.OpenSpec.ofChange s with cond := some uptoSmall }

/-- 'laws.FnMorphisms', WHERE WHAT IT READS IS OF BULK AT MOST 1048576: true; the input reads as it did. -/
def fnMorphismsUptoRow : OpenClaim := { program := "ytikfhibcdhdglaagreat", sum := "0cca9af8e5468393b707b2dd6b1b1652aa9713f67d550294c736c72a3cf58ce9", func := "loop.example/g01089/laws.FnMorphisms", spec := "fnMorphisms", unfollowed := true, recurses := true, apart := false, narrowed := true }
def FnMorphismsUptoSaid : Prop := fnMorphismsUptoRow.holds Tryz.pinned (OpenSpec.upto fnMorphismsSpec)

/-- 'laws.FnJankov', WHERE WHAT IT READS IS OF BULK AT MOST 1048576: true; the input reads as it did. -/
def fnJankovUptoRow : OpenClaim := { program := "ytikfhibcdhdglaagreat", sum := "0cca9af8e5468393b707b2dd6b1b1652aa9713f67d550294c736c72a3cf58ce9", func := "loop.example/g01089/laws.FnJankov", spec := "fnJankov", unfollowed := true, recurses := true, apart := false, narrowed := true }
def FnJankovUptoSaid : Prop := fnJankovUptoRow.holds Tryz.pinned (OpenSpec.upto fnJankovSpec)

/-- 'laws.FnQuotients', WHERE WHAT IT READS IS OF BULK AT MOST 1048576: true; the input reads as it did. -/
def fnQuotientsUptoRow : OpenClaim := { program := "ytikfhibcdhdglaagreat", sum := "0cca9af8e5468393b707b2dd6b1b1652aa9713f67d550294c736c72a3cf58ce9", func := "loop.example/g01089/laws.FnQuotients", spec := "fnQuotients", unfollowed := true, recurses := true, apart := false, narrowed := true }
def FnQuotientsUptoSaid : Prop := fnQuotientsUptoRow.holds Tryz.pinned (OpenSpec.upto fnQuotientsSpec)

/-- 'laws.FnUnder', WHERE WHAT IT READS IS OF BULK AT MOST 1048576: true; the input reads as it did. -/
def fnUnderUptoRow : OpenClaim := { program := "ytikfhibcdhdglaagreat", sum := "0cca9af8e5468393b707b2dd6b1b1652aa9713f67d550294c736c72a3cf58ce9", func := "loop.example/g01089/laws.FnUnder", spec := "fnUnder", unfollowed := true, recurses := true, apart := false, narrowed := true }
def FnUnderUptoSaid : Prop := fnUnderUptoRow.holds Tryz.pinned (OpenSpec.upto fnUnderSpec)

end Rows
end Go.Proofs.YtikfhibcdhdglaaGreat
