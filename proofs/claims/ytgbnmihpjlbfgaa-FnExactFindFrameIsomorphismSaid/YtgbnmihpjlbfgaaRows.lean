/-
  No cell of these rows narrows 'for every input' (looked for: loops, veiled, ifaces, maps, wideKeys, modest, calm, conditions, laid).
  DERIVED. THE GIVEN ROWS OF THIS SEAT. 7 by the template 'for every input the law returns true; each argument reads behind the call as it read before'; 0 by the template 'total and deterministic' (their statements: YtgbnmihpjlbfgaaTotals.lean).
  GIVEN WITH THE SEED: the statements are not yours to turn. If you find one false, say at which input.
  Laid BY PROGRAM, IN A SANDBOX (cutbox-rows.mjs): the forced cells as the released guide's own fill.sh prints them over the translation be94fa654429a638… (all of the seat's roots in one cut). By AI agents, Wed Nov 11 2026. No macro, syntax, notation, axiom, sorry.
-/
import Derived.Test.YtgbnmihpjlbfgaaChecked
import GoSem.Claim
import GoSem.ClaimJoined
import GoSem.ClaimMapViews
import Derived.JoinedTies
import Derived.KernelRfl
namespace Go.Proofs.Ytgbnmihpjlbfgaa
/- THE CELL 'sum', in the pinned program and in every row, IS THE sha256 OF THE DUMP (.gsa) THAT YtgbnmihpjlbfgaaProg.lean LOADS. Nothing in Lean hashes anything: it is a label: what it is worth is what the hold of that sum in a sandbox is worth. -/
noncomputable def Try.pinned : Pinned := { name := "ytgbnmihpjlbfgaa", sum := "be94fa654429a6384db4144b2595ef2c0a55e520375bb5ecc52ddd6debe591f0", checked := Try.checked }
namespace Rows
def none {H : Type} : Left H := { results := [], args := [] }

/-- 'laws.FnExactCountAutomorphisms': WHATEVER THE INPUT: true; the input reads as it did. -/
def fnExactCountAutomorphismsSpec : ChangeSpec := { name := "fnExactCountAutomorphisms", fn := fun _ => fun
  | [d] => { results := [.lit (.bool true)], args := [d] }
  | _ => none }
def fnExactCountAutomorphismsRow : OpenClaim := { program := "ytgbnmihpjlbfgaa", sum := "be94fa654429a6384db4144b2595ef2c0a55e520375bb5ecc52ddd6debe591f0", func := "loop.example/g01089/laws.FnExactCountAutomorphisms", spec := "fnExactCountAutomorphisms", unfollowed := true, recurses := true, apart := false }
def FnExactCountAutomorphismsSaid : Prop := fnExactCountAutomorphismsRow.holds Try.pinned (OpenSpec.ofChange fnExactCountAutomorphismsSpec)

/-- ITS FALSE NEIGHBOUR: 'it returns false'. Refute it at one input. -/
def fnExactCountAutomorphismsWrong : ChangeSpec := { name := "fnExactCountAutomorphisms", fn := fun _ => fun
  | [d] => { results := [.lit (.bool false)], args := [d] }
  | _ => none }
def FnExactCountAutomorphismsWrongFalsely : Prop := fnExactCountAutomorphismsRow.holds Try.pinned (OpenSpec.ofChange fnExactCountAutomorphismsWrong)

/-- 'laws.FnExactFindOnto': WHATEVER THE INPUT: true; the input reads as it did. -/
def fnExactFindOntoSpec : ChangeSpec := { name := "fnExactFindOnto", fn := fun _ => fun
  | [d1, d2] => { results := [.lit (.bool true)], args := [d1, d2] }
  | _ => none }
def fnExactFindOntoRow : OpenClaim := { program := "ytgbnmihpjlbfgaa", sum := "be94fa654429a6384db4144b2595ef2c0a55e520375bb5ecc52ddd6debe591f0", func := "loop.example/g01089/laws.FnExactFindOnto", spec := "fnExactFindOnto", unfollowed := true, recurses := true, apart := false }
def FnExactFindOntoSaid : Prop := fnExactFindOntoRow.holds Try.pinned (OpenSpec.ofChange fnExactFindOntoSpec)

/-- ITS FALSE NEIGHBOUR: 'it returns false'. Refute it at one input. -/
def fnExactFindOntoWrong : ChangeSpec := { name := "fnExactFindOnto", fn := fun _ => fun
  | [d1, d2] => { results := [.lit (.bool false)], args := [d1, d2] }
  | _ => none }
def FnExactFindOntoWrongFalsely : Prop := fnExactFindOntoRow.holds Try.pinned (OpenSpec.ofChange fnExactFindOntoWrong)

/-- 'laws.FnExactAllMorphisms': WHATEVER THE INPUT: true; the input reads as it did. -/
def fnExactAllMorphismsSpec : ChangeSpec := { name := "fnExactAllMorphisms", fn := fun _ => fun
  | [d1, d2] => { results := [.lit (.bool true)], args := [d1, d2] }
  | _ => none }
def fnExactAllMorphismsRow : OpenClaim := { program := "ytgbnmihpjlbfgaa", sum := "be94fa654429a6384db4144b2595ef2c0a55e520375bb5ecc52ddd6debe591f0", func := "loop.example/g01089/laws.FnExactAllMorphisms", spec := "fnExactAllMorphisms", unfollowed := true, recurses := true, apart := false }
def FnExactAllMorphismsSaid : Prop := fnExactAllMorphismsRow.holds Try.pinned (OpenSpec.ofChange fnExactAllMorphismsSpec)

/-- ITS FALSE NEIGHBOUR: 'it returns false'. Refute it at one input. -/
def fnExactAllMorphismsWrong : ChangeSpec := { name := "fnExactAllMorphisms", fn := fun _ => fun
  | [d1, d2] => { results := [.lit (.bool false)], args := [d1, d2] }
  | _ => none }
def FnExactAllMorphismsWrongFalsely : Prop := fnExactAllMorphismsRow.holds Try.pinned (OpenSpec.ofChange fnExactAllMorphismsWrong)

/-- 'laws.FnExactAreIsomorphicAlgebras': WHATEVER THE INPUT: true; the input reads as it did. -/
def fnExactAreIsomorphicAlgebrasSpec : ChangeSpec := { name := "fnExactAreIsomorphicAlgebras", fn := fun _ => fun
  | [d1, d2] => { results := [.lit (.bool true)], args := [d1, d2] }
  | _ => none }
def fnExactAreIsomorphicAlgebrasRow : OpenClaim := { program := "ytgbnmihpjlbfgaa", sum := "be94fa654429a6384db4144b2595ef2c0a55e520375bb5ecc52ddd6debe591f0", func := "loop.example/g01089/laws.FnExactAreIsomorphicAlgebras", spec := "fnExactAreIsomorphicAlgebras", unfollowed := true, recurses := true, apart := false }
def FnExactAreIsomorphicAlgebrasSaid : Prop := fnExactAreIsomorphicAlgebrasRow.holds Try.pinned (OpenSpec.ofChange fnExactAreIsomorphicAlgebrasSpec)

/-- ITS FALSE NEIGHBOUR: 'it returns false'. Refute it at one input. -/
def fnExactAreIsomorphicAlgebrasWrong : ChangeSpec := { name := "fnExactAreIsomorphicAlgebras", fn := fun _ => fun
  | [d1, d2] => { results := [.lit (.bool false)], args := [d1, d2] }
  | _ => none }
def FnExactAreIsomorphicAlgebrasWrongFalsely : Prop := fnExactAreIsomorphicAlgebrasRow.holds Try.pinned (OpenSpec.ofChange fnExactAreIsomorphicAlgebrasWrong)

/-- 'laws.FnExactFindFrameIsomorphism': WHATEVER THE INPUT: true; the input reads as it did. -/
def fnExactFindFrameIsomorphismSpec : ChangeSpec := { name := "fnExactFindFrameIsomorphism", fn := fun _ => fun
  | [d1, d2] => { results := [.lit (.bool true)], args := [d1, d2] }
  | _ => none }
def fnExactFindFrameIsomorphismRow : OpenClaim := { program := "ytgbnmihpjlbfgaa", sum := "be94fa654429a6384db4144b2595ef2c0a55e520375bb5ecc52ddd6debe591f0", func := "loop.example/g01089/laws.FnExactFindFrameIsomorphism", spec := "fnExactFindFrameIsomorphism", unfollowed := true, recurses := true, apart := false }
def FnExactFindFrameIsomorphismSaid : Prop := fnExactFindFrameIsomorphismRow.holds Try.pinned (OpenSpec.ofChange fnExactFindFrameIsomorphismSpec)

/-- ITS FALSE NEIGHBOUR: 'it returns false'. Refute it at one input. -/
def fnExactFindFrameIsomorphismWrong : ChangeSpec := { name := "fnExactFindFrameIsomorphism", fn := fun _ => fun
  | [d1, d2] => { results := [.lit (.bool false)], args := [d1, d2] }
  | _ => none }
def FnExactFindFrameIsomorphismWrongFalsely : Prop := fnExactFindFrameIsomorphismRow.holds Try.pinned (OpenSpec.ofChange fnExactFindFrameIsomorphismWrong)

/-- 'laws.FnExactFindImage': WHATEVER THE INPUT: true; the input reads as it did. -/
def fnExactFindImageSpec : ChangeSpec := { name := "fnExactFindImage", fn := fun _ => fun
  | [d1, d2] => { results := [.lit (.bool true)], args := [d1, d2] }
  | _ => none }
def fnExactFindImageRow : OpenClaim := { program := "ytgbnmihpjlbfgaa", sum := "be94fa654429a6384db4144b2595ef2c0a55e520375bb5ecc52ddd6debe591f0", func := "loop.example/g01089/laws.FnExactFindImage", spec := "fnExactFindImage", unfollowed := true, recurses := true, apart := false }
def FnExactFindImageSaid : Prop := fnExactFindImageRow.holds Try.pinned (OpenSpec.ofChange fnExactFindImageSpec)

/-- ITS FALSE NEIGHBOUR: 'it returns false'. Refute it at one input. -/
def fnExactFindImageWrong : ChangeSpec := { name := "fnExactFindImage", fn := fun _ => fun
  | [d1, d2] => { results := [.lit (.bool false)], args := [d1, d2] }
  | _ => none }
def FnExactFindImageWrongFalsely : Prop := fnExactFindImageRow.holds Try.pinned (OpenSpec.ofChange fnExactFindImageWrong)

/-- 'laws.FnExactAllPosetMorphisms': WHATEVER THE INPUT: true; the input reads as it did. -/
def fnExactAllPosetMorphismsSpec : ChangeSpec := { name := "fnExactAllPosetMorphisms", fn := fun _ => fun
  | [d1, d2] => { results := [.lit (.bool true)], args := [d1, d2] }
  | _ => none }
def fnExactAllPosetMorphismsRow : OpenClaim := { program := "ytgbnmihpjlbfgaa", sum := "be94fa654429a6384db4144b2595ef2c0a55e520375bb5ecc52ddd6debe591f0", func := "loop.example/g01089/laws.FnExactAllPosetMorphisms", spec := "fnExactAllPosetMorphisms", unfollowed := true, recurses := true, apart := false }
def FnExactAllPosetMorphismsSaid : Prop := fnExactAllPosetMorphismsRow.holds Try.pinned (OpenSpec.ofChange fnExactAllPosetMorphismsSpec)

/-- ITS FALSE NEIGHBOUR: 'it returns false'. Refute it at one input. -/
def fnExactAllPosetMorphismsWrong : ChangeSpec := { name := "fnExactAllPosetMorphisms", fn := fun _ => fun
  | [d1, d2] => { results := [.lit (.bool false)], args := [d1, d2] }
  | _ => none }
def FnExactAllPosetMorphismsWrongFalsely : Prop := fnExactAllPosetMorphismsRow.holds Try.pinned (OpenSpec.ofChange fnExactAllPosetMorphismsWrong)

/- THE SECOND FORM. 'bulk': how many values and letters a reading holds, each counted each time it is reached (what is shared counts as often as it is met; a slice's spare places count too). A statement '..UptoSaid' is the law's where the arguments, and the package variables that the reading takes, are together of bulk at most 1048576: NARROWER than '..Said'. Prove '..Said' where nothing that the law and all that it calls make is longer than what came in: it says more and counts as full. Else prove '..UptoSaid'. A law counts once. -/
mutual
def uptoBulk {H : Type} : DataW H → Nat
  | .lit (.string bytes) => bytes.length + 1
  | .lit _ => 1
  | .nil => 1
  | .ptr d => uptoBulk d + 1
  | .slice elems spare => uptoBulkAll elems + uptoBulkAll spare + 1
  | .agg parts => uptoBulkAll parts + 1
  | .iface _ d => uptoBulk d + 1
  | .map entries => uptoBulkEntries entries + 1
  | .held _ => 1
def uptoBulkAll {H : Type} : List (DataW H) → Nat
  | [] => 0
  | d :: r => uptoBulk d + uptoBulkAll r
def uptoBulkEntries {H : Type} : List (Lit × DataW H) → Nat
  | [] => 0
  | x :: r => uptoBulkEntry x + uptoBulkEntries r
def uptoBulkEntry {H : Type} : Lit × DataW H → Nat
  | (.string bytes, d) => bytes.length + uptoBulk d + 1
  | (_, d) => uptoBulk d + 1
 end
def uptoSmall : (H : Type) → List (DataW H) → Bool := fun _ ds => decide (uptoBulkAll ds ≤ 1048576)
def OpenSpec.upto (s : _root_.Go.ChangeSpec) : _root_.Go.OpenSpec := { _root_.Go.OpenSpec.ofChange s with cond := some uptoSmall }

/-- 'laws.FnExactCountAutomorphisms', WHERE WHAT IT READS IS OF BULK AT MOST 1048576: true; the input reads as it did. -/
def fnExactCountAutomorphismsUptoRow : OpenClaim := { program := "ytgbnmihpjlbfgaa", sum := "be94fa654429a6384db4144b2595ef2c0a55e520375bb5ecc52ddd6debe591f0", func := "loop.example/g01089/laws.FnExactCountAutomorphisms", spec := "fnExactCountAutomorphisms", unfollowed := true, recurses := true, apart := false, narrowed := true }
def FnExactCountAutomorphismsUptoSaid : Prop := fnExactCountAutomorphismsUptoRow.holds Try.pinned (OpenSpec.upto fnExactCountAutomorphismsSpec)

/-- 'laws.FnExactFindOnto', WHERE WHAT IT READS IS OF BULK AT MOST 1048576: true; the input reads as it did. -/
def fnExactFindOntoUptoRow : OpenClaim := { program := "ytgbnmihpjlbfgaa", sum := "be94fa654429a6384db4144b2595ef2c0a55e520375bb5ecc52ddd6debe591f0", func := "loop.example/g01089/laws.FnExactFindOnto", spec := "fnExactFindOnto", unfollowed := true, recurses := true, apart := false, narrowed := true }
def FnExactFindOntoUptoSaid : Prop := fnExactFindOntoUptoRow.holds Try.pinned (OpenSpec.upto fnExactFindOntoSpec)

/-- 'laws.FnExactAllMorphisms', WHERE WHAT IT READS IS OF BULK AT MOST 1048576: true; the input reads as it did. -/
def fnExactAllMorphismsUptoRow : OpenClaim := { program := "ytgbnmihpjlbfgaa", sum := "be94fa654429a6384db4144b2595ef2c0a55e520375bb5ecc52ddd6debe591f0", func := "loop.example/g01089/laws.FnExactAllMorphisms", spec := "fnExactAllMorphisms", unfollowed := true, recurses := true, apart := false, narrowed := true }
def FnExactAllMorphismsUptoSaid : Prop := fnExactAllMorphismsUptoRow.holds Try.pinned (OpenSpec.upto fnExactAllMorphismsSpec)

/-- 'laws.FnExactAreIsomorphicAlgebras', WHERE WHAT IT READS IS OF BULK AT MOST 1048576: true; the input reads as it did. -/
def fnExactAreIsomorphicAlgebrasUptoRow : OpenClaim := { program := "ytgbnmihpjlbfgaa", sum := "be94fa654429a6384db4144b2595ef2c0a55e520375bb5ecc52ddd6debe591f0", func := "loop.example/g01089/laws.FnExactAreIsomorphicAlgebras", spec := "fnExactAreIsomorphicAlgebras", unfollowed := true, recurses := true, apart := false, narrowed := true }
def FnExactAreIsomorphicAlgebrasUptoSaid : Prop := fnExactAreIsomorphicAlgebrasUptoRow.holds Try.pinned (OpenSpec.upto fnExactAreIsomorphicAlgebrasSpec)

/-- 'laws.FnExactFindFrameIsomorphism', WHERE WHAT IT READS IS OF BULK AT MOST 1048576: true; the input reads as it did. -/
def fnExactFindFrameIsomorphismUptoRow : OpenClaim := { program := "ytgbnmihpjlbfgaa", sum := "be94fa654429a6384db4144b2595ef2c0a55e520375bb5ecc52ddd6debe591f0", func := "loop.example/g01089/laws.FnExactFindFrameIsomorphism", spec := "fnExactFindFrameIsomorphism", unfollowed := true, recurses := true, apart := false, narrowed := true }
def FnExactFindFrameIsomorphismUptoSaid : Prop := fnExactFindFrameIsomorphismUptoRow.holds Try.pinned (OpenSpec.upto fnExactFindFrameIsomorphismSpec)

/-- 'laws.FnExactFindImage', WHERE WHAT IT READS IS OF BULK AT MOST 1048576: true; the input reads as it did. -/
def fnExactFindImageUptoRow : OpenClaim := { program := "ytgbnmihpjlbfgaa", sum := "be94fa654429a6384db4144b2595ef2c0a55e520375bb5ecc52ddd6debe591f0", func := "loop.example/g01089/laws.FnExactFindImage", spec := "fnExactFindImage", unfollowed := true, recurses := true, apart := false, narrowed := true }
def FnExactFindImageUptoSaid : Prop := fnExactFindImageUptoRow.holds Try.pinned (OpenSpec.upto fnExactFindImageSpec)

/-- 'laws.FnExactAllPosetMorphisms', WHERE WHAT IT READS IS OF BULK AT MOST 1048576: true; the input reads as it did. -/
def fnExactAllPosetMorphismsUptoRow : OpenClaim := { program := "ytgbnmihpjlbfgaa", sum := "be94fa654429a6384db4144b2595ef2c0a55e520375bb5ecc52ddd6debe591f0", func := "loop.example/g01089/laws.FnExactAllPosetMorphisms", spec := "fnExactAllPosetMorphisms", unfollowed := true, recurses := true, apart := false, narrowed := true }
def FnExactAllPosetMorphismsUptoSaid : Prop := fnExactAllPosetMorphismsUptoRow.holds Try.pinned (OpenSpec.upto fnExactAllPosetMorphismsSpec)

end Rows
end Go.Proofs.Ytgbnmihpjlbfgaa
