/-
  No cell of these rows narrows 'for every input' (looked for: loops, veiled, ifaces, maps, wideKeys, modest, calm, conditions, laid).
  DERIVED. THE GIVEN ROWS OF THIS SEAT. 2 by the template 'for every input the law returns true; each argument reads behind the call as it read before'; 0 by the template 'total and deterministic' (their statements: YtnbelddmhlknkaaGreatTotals.lean).
  GIVEN WITH THE SEED: the statements are not yours to turn. If you find one false, say at which input.
  Laid BY PROGRAM, IN A SANDBOX (cutbox-rows.mjs): the forced cells as the released guide's own fill.sh prints them over the translation 2b9a640e2f2ae364… (all of the seat's roots in one cut). By AI agents, Wed Nov 11 2026. No macro, syntax, notation, axiom, sorry.
-/
import Derived.Test.YtnbelddmhlknkaaGreatChecked
import GoSem.Claim
import GoSem.ClaimJoined
import GoSem.ClaimMapViews
import Derived.JoinedTies
import Derived.KernelRfl
namespace Go.Proofs.YtnbelddmhlknkaaGreat
/- THE CELL 'sum', in the pinned program and in every row, IS THE sha256 OF THE DUMP (.gsa) THAT YtnbelddmhlknkaaGreatProg.lean LOADS. Nothing in Lean hashes anything: it is a label: what it is worth is what the hold of that sum in a sandbox is worth. -/
noncomputable def Tryz.pinned : Pinned := { name := "ytnbelddmhlknkaagreat", sum := "2b9a640e2f2ae364b6dc45c16e5d7baca5b2fdf0614974d47ce040ff4317967a", checked := Tryz.checked }
namespace Rows
def none {H : Type} : Left H := { results := [], args := [] }

/-- 'laws.FnExactOpenClaims': WHATEVER THE INPUT: true; the input reads as it did. -/
def fnExactOpenClaimsSpec : ChangeSpec := { name := "fnExactOpenClaims", fn := fun _ => fun
  | [d] => { results := [.lit (.bool true)], args := [d] }
  | _ => none }
def fnExactOpenClaimsRow : OpenClaim := { program := "ytnbelddmhlknkaagreat", sum := "2b9a640e2f2ae364b6dc45c16e5d7baca5b2fdf0614974d47ce040ff4317967a", func := "loop.example/g01089/laws.FnExactOpenClaims", spec := "fnExactOpenClaims", unfollowed := true, recurses := true, apart := false }
def FnExactOpenClaimsSaid : Prop := fnExactOpenClaimsRow.holds Tryz.pinned (OpenSpec.ofChange fnExactOpenClaimsSpec)

/-- ITS FALSE NEIGHBOUR: 'it returns false'. Refute it at one input. -/
def fnExactOpenClaimsWrong : ChangeSpec := { name := "fnExactOpenClaims", fn := fun _ => fun
  | [d] => { results := [.lit (.bool false)], args := [d] }
  | _ => none }
def FnExactOpenClaimsWrongFalsely : Prop := fnExactOpenClaimsRow.holds Tryz.pinned (OpenSpec.ofChange fnExactOpenClaimsWrong)

/-- 'laws.FnExactExpandExpression': WHATEVER THE INPUT: true; the input reads as it did. -/
def fnExactExpandExpressionSpec : ChangeSpec := { name := "fnExactExpandExpression", fn := fun _ => fun
  | [d1, d2] => { results := [.lit (.bool true)], args := [d1, d2] }
  | _ => none }
def fnExactExpandExpressionRow : OpenClaim := { program := "ytnbelddmhlknkaagreat", sum := "2b9a640e2f2ae364b6dc45c16e5d7baca5b2fdf0614974d47ce040ff4317967a", func := "loop.example/g01089/laws.FnExactExpandExpression", spec := "fnExactExpandExpression", inPlace := ["internal/bytealg.IndexByteString", "internal/bytealg.IndexString", "internal/abi.NoEscape", "internal/bytealg.abigen_runtime_cmpstring"], unfollowed := true, recurses := true, named := ["internal/bytealg.MaxLen"], apart := false }
def FnExactExpandExpressionSaid : Prop := fnExactExpandExpressionRow.holds Tryz.pinned (OpenSpec.ofChange fnExactExpandExpressionSpec)

/-- ITS FALSE NEIGHBOUR: 'it returns false'. Refute it at one input. -/
def fnExactExpandExpressionWrong : ChangeSpec := { name := "fnExactExpandExpression", fn := fun _ => fun
  | [d1, d2] => { results := [.lit (.bool false)], args := [d1, d2] }
  | _ => none }
def FnExactExpandExpressionWrongFalsely : Prop := fnExactExpandExpressionRow.holds Tryz.pinned (OpenSpec.ofChange fnExactExpandExpressionWrong)

/- THE SECOND FORM. 'bulk': how many values and letters a reading holds, each counted each time it is reached (what is shared counts as often as it is met; a slice's spare places count too). A statement '..UptoSaid' is the law's where the arguments, and the package variables that the reading takes, are together of bulk at most 1048576: NARROWER than '..Said'. Prove '..Said' where nothing that the law and all that it calls make is longer than what came in: it says more and counts as full. Else prove '..UptoSaid'. A law counts once. -/
mutual
def uptoBulk {H : Type} : DataW H → Nat
  | .lit (.string bytes) => bytes.length + 1
  | .lit _ => 1
  | .nil => 1
  | .ptr d => uptoBulk d + 1
  | .slice elems spare => uptoBulkAll elems + uptoBulkAll spare + 1
  | .agg parts => uptoBulkAll parts + 1
  | .iface _ d => uptoBulk d + 1
  | .map entries => uptoBulkEntries entries + 1
  | .held _ => 1
def uptoBulkAll {H : Type} : List (DataW H) → Nat
  | [] => 0
  | d :: r => uptoBulk d + uptoBulkAll r
def uptoBulkEntries {H : Type} : List (Lit × DataW H) → Nat
  | [] => 0
  | x :: r => uptoBulkEntry x + uptoBulkEntries r
def uptoBulkEntry {H : Type} : Lit × DataW H → Nat
  | (.string bytes, d) => bytes.length + uptoBulk d + 1
  | (_, d) => uptoBulk d + 1
 end
def uptoSmall : (H : Type) → List (DataW H) → Bool := fun _ ds => decide (uptoBulkAll ds ≤ 1048576)
def OpenSpec.upto (s : _root_.Go.ChangeSpec) : _root_.Go.OpenSpec := { _root_.Go.OpenSpec.ofChange s with cond := some uptoSmall }

/-- 'laws.FnExactOpenClaims', WHERE WHAT IT READS IS OF BULK AT MOST 1048576: true; the input reads as it did. -/
def fnExactOpenClaimsUptoRow : OpenClaim := { program := "ytnbelddmhlknkaagreat", sum := "2b9a640e2f2ae364b6dc45c16e5d7baca5b2fdf0614974d47ce040ff4317967a", func := "loop.example/g01089/laws.FnExactOpenClaims", spec := "fnExactOpenClaims", unfollowed := true, recurses := true, apart := false, narrowed := true }
def FnExactOpenClaimsUptoSaid : Prop := fnExactOpenClaimsUptoRow.holds Tryz.pinned (OpenSpec.upto fnExactOpenClaimsSpec)

/-- 'laws.FnExactExpandExpression', WHERE WHAT IT READS IS OF BULK AT MOST 1048576: true; the input reads as it did. -/
def fnExactExpandExpressionUptoRow : OpenClaim := { program := "ytnbelddmhlknkaagreat", sum := "2b9a640e2f2ae364b6dc45c16e5d7baca5b2fdf0614974d47ce040ff4317967a", func := "loop.example/g01089/laws.FnExactExpandExpression", spec := "fnExactExpandExpression", inPlace := ["internal/bytealg.IndexByteString", "internal/bytealg.IndexString", "internal/abi.NoEscape", "internal/bytealg.abigen_runtime_cmpstring"], unfollowed := true, recurses := true, named := ["internal/bytealg.MaxLen"], apart := false, narrowed := true }
def FnExactExpandExpressionUptoSaid : Prop := fnExactExpandExpressionUptoRow.holds Tryz.pinned (OpenSpec.upto fnExactExpandExpressionSpec)

end Rows
end Go.Proofs.YtnbelddmhlknkaaGreat
