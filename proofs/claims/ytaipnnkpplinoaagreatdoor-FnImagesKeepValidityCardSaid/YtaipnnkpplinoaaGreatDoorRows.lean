/-
  NARROWER THAN 'FOR EVERY INPUT', by the rows' own cells (each row's printed sentence says how): FnImagesKeepValidity: laid · FnClosedFiltrations: laid.
  DERIVED. THE GIVEN ROWS OF THIS SEAT. 2 by the template 'for every input the law returns true; each argument reads behind the call as it read before'; 0 by the template 'total and deterministic' (their statements: YtaipnnkpplinoaaGreatDoorTotals.lean).
  GIVEN WITH THE SEED: the statements are not yours to turn. If you find one false, say at which input.
  Laid BY PROGRAM, IN A SANDBOX (cutbox-rows.mjs): the forced cells as the released guide's own fill.sh prints them over the translation 33d881b0710892f7… (all of the seat's roots in one cut). By AI agents, Wed Nov 11 2026. No macro, syntax, notation, axiom, sorry.
-/
import Derived.Test.YtaipnnkpplinoaaGreatDoorChecked
import GoSem.PinnedTables
import GoSem.Claim
import GoSem.ClaimJoined
import GoSem.ClaimMapViews
import Derived.JoinedTies
import Derived.KernelRfl
namespace Go.Proofs.YtaipnnkpplinoaaGreatDoor
/- THE CELL 'sum', in the pinned program and in every row, IS THE sha256 OF THE DUMP (.gsa) THAT YtaipnnkpplinoaaGreatDoorProg.lean LOADS. Nothing in Lean hashes anything: it is a label: what it is worth is what the hold of that sum in a sandbox is worth. -/
noncomputable def Tryz.pinned : Pinned := { name := "ytaipnnkpplinoaagreatdoor", sum := "33d881b0710892f7438ecbc6ae868f0864962c964a91d81e34b45dce70d37db1", checked := Tryz.checked }
namespace Rows
def none {H : Type} : Left H := { results := [], args := [] }

/- WHAT THE LISTED PACKAGE-LEVEL VARIABLES READ AS WHEN THE CALL BEGINS. Each datum BY PROGRAM (the guide's laid-datum.mjs) off the statement by which the dump's own 'gosem.cut.vars' lays the variable. In a bare row this is a premise. The card (YtaipnnkpplinoaaGreatDoorCards.lean) ties it to the program's text. -/
def laid_unicode_utf8_acceptRanges {H : Type} : DataW H := .agg [.agg [.lit (.int .u8 128), .lit (.int .u8 191)], .agg [.lit (.int .u8 160), .lit (.int .u8 191)], .agg [.lit (.int .u8 128), .lit (.int .u8 159)], .agg [.lit (.int .u8 144), .lit (.int .u8 191)], .agg [.lit (.int .u8 128), .lit (.int .u8 143)], .agg [.lit (.int .u8 0), .lit (.int .u8 0)], .agg [.lit (.int .u8 0), .lit (.int .u8 0)], .agg [.lit (.int .u8 0), .lit (.int .u8 0)], .agg [.lit (.int .u8 0), .lit (.int .u8 0)], .agg [.lit (.int .u8 0), .lit (.int .u8 0)], .agg [.lit (.int .u8 0), .lit (.int .u8 0)], .agg [.lit (.int .u8 0), .lit (.int .u8 0)], .agg [.lit (.int .u8 0), .lit (.int .u8 0)], .agg [.lit (.int .u8 0), .lit (.int .u8 0)], .agg [.lit (.int .u8 0), .lit (.int .u8 0)], .agg [.lit (.int .u8 0), .lit (.int .u8 0)]]
def laid_loop_example_g01089_impl_axiomNames {H : Type} : DataW H := .agg [.lit (.string [52]), .lit (.string [53]), .lit (.string [66]), .lit (.string [67]), .lit (.string [68]), .lit (.string [70]), .lit (.string [71]), .lit (.string [72]), .lit (.string [76]), .lit (.string [84]), .lit (.string [86]), .lit (.string [88]), .lit (.string [90])]
def laid_loop_example_g01089_impl_logicTable {H : Type} : DataW H := .agg [.lit (.string [68, 32, 68]), .lit (.string [68, 52, 32, 52, 32, 68]), .lit (.string [71, 76, 32, 76]), .lit (.string [71, 114, 122, 32, 90]), .lit (.string [75]), .lit (.string [75, 52, 32, 52]), .lit (.string [75, 52, 53, 32, 52, 32, 53]), .lit (.string [75, 66, 32, 66]), .lit (.string [75, 68, 52, 53, 32, 52, 32, 53, 32, 68]), .lit (.string [83, 52, 32, 52, 32, 84]), .lit (.string [83, 52, 50, 32, 52, 32, 71, 32, 84]), .lit (.string [83, 52, 51, 32, 52, 32, 72, 32, 84]), .lit (.string [83, 53, 32, 53, 32, 84]), .lit (.string [84, 32, 84]), .lit (.string [84, 114, 105, 118, 32, 84, 32, 88]), .lit (.string [86, 101, 114, 32, 86])]
/-- One of Go's own tables, pinned by name: the form's constant. -/
def laid_unicode_utf8_first : DataW Unit := Go.Pinned.utf8First
def laid_math_bits_deBruijn32tab {H : Type} : DataW H := .agg [.lit (.int .u8 0), .lit (.int .u8 1), .lit (.int .u8 28), .lit (.int .u8 2), .lit (.int .u8 29), .lit (.int .u8 14), .lit (.int .u8 24), .lit (.int .u8 3), .lit (.int .u8 30), .lit (.int .u8 22), .lit (.int .u8 20), .lit (.int .u8 15), .lit (.int .u8 25), .lit (.int .u8 17), .lit (.int .u8 4), .lit (.int .u8 8), .lit (.int .u8 31), .lit (.int .u8 27), .lit (.int .u8 13), .lit (.int .u8 23), .lit (.int .u8 21), .lit (.int .u8 19), .lit (.int .u8 16), .lit (.int .u8 7), .lit (.int .u8 26), .lit (.int .u8 12), .lit (.int .u8 18), .lit (.int .u8 6), .lit (.int .u8 11), .lit (.int .u8 5), .lit (.int .u8 10), .lit (.int .u8 9)]
def laid_math_bits_deBruijn64tab {H : Type} : DataW H := .agg [.lit (.int .u8 0), .lit (.int .u8 1), .lit (.int .u8 56), .lit (.int .u8 2), .lit (.int .u8 57), .lit (.int .u8 49), .lit (.int .u8 28), .lit (.int .u8 3), .lit (.int .u8 61), .lit (.int .u8 58), .lit (.int .u8 42), .lit (.int .u8 50), .lit (.int .u8 38), .lit (.int .u8 29), .lit (.int .u8 17), .lit (.int .u8 4), .lit (.int .u8 62), .lit (.int .u8 47), .lit (.int .u8 59), .lit (.int .u8 36), .lit (.int .u8 45), .lit (.int .u8 43), .lit (.int .u8 51), .lit (.int .u8 22), .lit (.int .u8 53), .lit (.int .u8 39), .lit (.int .u8 33), .lit (.int .u8 30), .lit (.int .u8 24), .lit (.int .u8 18), .lit (.int .u8 12), .lit (.int .u8 5), .lit (.int .u8 63), .lit (.int .u8 55), .lit (.int .u8 48), .lit (.int .u8 27), .lit (.int .u8 60), .lit (.int .u8 41), .lit (.int .u8 37), .lit (.int .u8 16), .lit (.int .u8 46), .lit (.int .u8 35), .lit (.int .u8 44), .lit (.int .u8 21), .lit (.int .u8 52), .lit (.int .u8 32), .lit (.int .u8 23), .lit (.int .u8 11), .lit (.int .u8 54), .lit (.int .u8 26), .lit (.int .u8 40), .lit (.int .u8 15), .lit (.int .u8 34), .lit (.int .u8 20), .lit (.int .u8 31), .lit (.int .u8 10), .lit (.int .u8 25), .lit (.int .u8 14), .lit (.int .u8 19), .lit (.int .u8 9), .lit (.int .u8 13), .lit (.int .u8 8), .lit (.int .u8 7), .lit (.int .u8 6)]
def laid_internal_strconv_uint64pow10 {H : Type} : DataW H := .agg [.lit (.int .u64 1), .lit (.int .u64 10), .lit (.int .u64 100), .lit (.int .u64 1000), .lit (.int .u64 10000), .lit (.int .u64 100000), .lit (.int .u64 1000000), .lit (.int .u64 10000000), .lit (.int .u64 100000000), .lit (.int .u64 1000000000), .lit (.int .u64 10000000000), .lit (.int .u64 100000000000), .lit (.int .u64 1000000000000), .lit (.int .u64 10000000000000), .lit (.int .u64 100000000000000), .lit (.int .u64 1000000000000000), .lit (.int .u64 10000000000000000), .lit (.int .u64 100000000000000000), .lit (.int .u64 1000000000000000000), .lit (.int .u64 10000000000000000000)]

/-- 'laws.FnImagesKeepValidity': WHATEVER THE INPUT: true; the input reads as it did. -/
def fnImagesKeepValiditySpec : ChangeSpec := { name := "fnImagesKeepValidity", vars := ["loop.example/g01089/impl.logicTable", "loop.example/g01089/impl.axiomNames"], fn := fun _ => fun
  | [d, g1, g2] => { results := [.lit (.bool true)], args := [d], vars := [g1, g2] }
  | _ => none }
def fnImagesKeepValidityRow : OpenClaim := { program := "ytaipnnkpplinoaagreatdoor", sum := "33d881b0710892f7438ecbc6ae868f0864962c964a91d81e34b45dce70d37db1", func := "loop.example/g01089/laws.FnImagesKeepValidity", spec := "fnImagesKeepValidity", inPlace := ["internal/bytealg.CountString", "internal/bytealg.IndexByteString", "internal/bytealg.IndexString"], unfollowed := true, recurses := true, named := ["loop.example/g01089/impl.logicTable", "unicode/utf8.first", "unicode/utf8.acceptRanges", "internal/bytealg.MaxLen", "loop.example/g01089/impl.axiomNames"], apart := false, laid := [("unicode/utf8.acceptRanges", laid_unicode_utf8_acceptRanges), ("loop.example/g01089/impl.axiomNames", laid_loop_example_g01089_impl_axiomNames), ("loop.example/g01089/impl.logicTable", laid_loop_example_g01089_impl_logicTable), ("unicode/utf8.first", laid_unicode_utf8_first)] }
def FnImagesKeepValiditySaid : Prop := fnImagesKeepValidityRow.holds Tryz.pinned (OpenSpec.ofChange fnImagesKeepValiditySpec)

/-- ITS FALSE NEIGHBOUR: 'it returns false'. Refute it at one input. -/
def fnImagesKeepValidityWrong : ChangeSpec := { name := "fnImagesKeepValidity", vars := ["loop.example/g01089/impl.logicTable", "loop.example/g01089/impl.axiomNames"], fn := fun _ => fun
  | [d, g1, g2] => { results := [.lit (.bool false)], args := [d], vars := [g1, g2] }
  | _ => none }
def FnImagesKeepValidityWrongFalsely : Prop := fnImagesKeepValidityRow.holds Tryz.pinned (OpenSpec.ofChange fnImagesKeepValidityWrong)

/-- 'laws.FnClosedFiltrations': WHATEVER THE INPUT: true; the input reads as it did. -/
def fnClosedFiltrationsSpec : ChangeSpec := { name := "fnClosedFiltrations", fn := fun _ => fun
  | [d] => { results := [.lit (.bool true)], args := [d] }
  | _ => none }
def fnClosedFiltrationsRow : OpenClaim := { program := "ytaipnnkpplinoaagreatdoor", sum := "33d881b0710892f7438ecbc6ae868f0864962c964a91d81e34b45dce70d37db1", func := "loop.example/g01089/laws.FnClosedFiltrations", spec := "fnClosedFiltrations", unfollowed := true, recurses := true, named := ["internal/strconv.uint64pow10", "math/bits.deBruijn32tab", "math/bits.deBruijn64tab"], apart := false, laid := [("math/bits.deBruijn32tab", laid_math_bits_deBruijn32tab), ("math/bits.deBruijn64tab", laid_math_bits_deBruijn64tab), ("internal/strconv.uint64pow10", laid_internal_strconv_uint64pow10)] }
def FnClosedFiltrationsSaid : Prop := fnClosedFiltrationsRow.holds Tryz.pinned (OpenSpec.ofChange fnClosedFiltrationsSpec)

/-- ITS FALSE NEIGHBOUR: 'it returns false'. Refute it at one input. -/
def fnClosedFiltrationsWrong : ChangeSpec := { name := "fnClosedFiltrations", fn := fun _ => fun
  | [d] => { results := [.lit (.bool false)], args := [d] }
  | _ => none }
def FnClosedFiltrationsWrongFalsely : Prop := fnClosedFiltrationsRow.holds Tryz.pinned (OpenSpec.ofChange fnClosedFiltrationsWrong)

/- THE SECOND FORM. 'bulk': how many values and letters a reading holds, each counted each time it is reached (what is shared counts as often as it is met; a slice's spare places count too). A statement '..UptoSaid' is the law's where the arguments, and the package variables that the reading takes, are together of bulk at most 1048576: NARROWER than '..Said'. Prove '..Said' where nothing that the law and all that it calls make is longer than what came in: it says more and counts as full. Else prove '..UptoSaid'. A law counts once. -/
mutual
def uptoBulk {H : Type} : DataW H → Nat
  | .lit (.string bytes) => bytes.length + 1
  | .lit _ => 1
  | .nil => 1
  | .ptr d => uptoBulk d + 1
  | .slice elems spare => uptoBulkAll elems + uptoBulkAll spare + 1
  | .agg parts => uptoBulkAll parts + 1
  | .iface _ d => uptoBulk d + 1
  | .map entries => uptoBulkEntries entries + 1
  | .held _ => 1
def uptoBulkAll {H : Type} : List (DataW H) → Nat
  | [] => 0
  | d :: r => uptoBulk d + uptoBulkAll r
def uptoBulkEntries {H : Type} : List (Lit × DataW H) → Nat
  | [] => 0
  | x :: r => uptoBulkEntry x + uptoBulkEntries r
def uptoBulkEntry {H : Type} : Lit × DataW H → Nat
  | (.string bytes, d) => bytes.length + uptoBulk d + 1
  | (_, d) => uptoBulk d + 1
 end
def uptoSmall : (H : Type) → List (DataW H) → Bool := fun _ ds => decide (uptoBulkAll ds ≤ 1048576)
def OpenSpec.upto (s : _root_.Go.ChangeSpec) : _root_.Go.OpenSpec := { _root_.Go.OpenSpec.ofChange s with cond := some uptoSmall }

/-- 'laws.FnImagesKeepValidity', WHERE WHAT IT READS IS OF BULK AT MOST 1048576: true; the input reads as it did. -/
def fnImagesKeepValidityUptoRow : OpenClaim := { program := "ytaipnnkpplinoaagreatdoor", sum := "33d881b0710892f7438ecbc6ae868f0864962c964a91d81e34b45dce70d37db1", func := "loop.example/g01089/laws.FnImagesKeepValidity", spec := "fnImagesKeepValidity", inPlace := ["internal/bytealg.CountString", "internal/bytealg.IndexByteString", "internal/bytealg.IndexString"], unfollowed := true, recurses := true, named := ["loop.example/g01089/impl.logicTable", "unicode/utf8.first", "unicode/utf8.acceptRanges", "internal/bytealg.MaxLen", "loop.example/g01089/impl.axiomNames"], apart := false, laid := [("unicode/utf8.acceptRanges", laid_unicode_utf8_acceptRanges), ("loop.example/g01089/impl.axiomNames", laid_loop_example_g01089_impl_axiomNames), ("loop.example/g01089/impl.logicTable", laid_loop_example_g01089_impl_logicTable), ("unicode/utf8.first", laid_unicode_utf8_first)], narrowed := true }
def FnImagesKeepValidityUptoSaid : Prop := fnImagesKeepValidityUptoRow.holds Tryz.pinned (OpenSpec.upto fnImagesKeepValiditySpec)

/-- 'laws.FnClosedFiltrations', WHERE WHAT IT READS IS OF BULK AT MOST 1048576: true; the input reads as it did. -/
def fnClosedFiltrationsUptoRow : OpenClaim := { program := "ytaipnnkpplinoaagreatdoor", sum := "33d881b0710892f7438ecbc6ae868f0864962c964a91d81e34b45dce70d37db1", func := "loop.example/g01089/laws.FnClosedFiltrations", spec := "fnClosedFiltrations", unfollowed := true, recurses := true, named := ["internal/strconv.uint64pow10", "math/bits.deBruijn32tab", "math/bits.deBruijn64tab"], apart := false, laid := [("math/bits.deBruijn32tab", laid_math_bits_deBruijn32tab), ("math/bits.deBruijn64tab", laid_math_bits_deBruijn64tab), ("internal/strconv.uint64pow10", laid_internal_strconv_uint64pow10)], narrowed := true }
def FnClosedFiltrationsUptoSaid : Prop := fnClosedFiltrationsUptoRow.holds Tryz.pinned (OpenSpec.upto fnClosedFiltrationsSpec)

end Rows
end Go.Proofs.YtaipnnkpplinoaaGreatDoor
