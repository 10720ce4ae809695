/-
  NARROWER THAN 'FOR EVERY INPUT', by the rows' own cells (each row's printed sentence says how): FnExactReplayEntries: laid · FnExactSetByLine: laid · FnExactFindItem: laid · FnExactEntriesOf: laid · FnExactAppendEntry: laid · FnExactCompactNotebook: laid · FnExactClaimedFormulas: laid · FnExactReadNotebook: laid · FnExactNotebookAt: laid · FnExactMergeNotebooks: laid.
  DERIVED. THE GIVEN ROWS OF THIS SEAT. 10 by the template 'for every input the law returns true; each argument reads behind the call as it read before'; 0 by the template 'total and deterministic' (their statements: YtombcpghgdabaaaGreatDoorTotals.lean).
  GIVEN WITH THE SEED: the statements are not yours to turn. If you find one false, say at which input.
  Laid BY PROGRAM, IN A SANDBOX (cutbox-rows.mjs): the forced cells as the released guide's own fill.sh prints them over the translation 54fdcf1cae39a752… (all of the seat's roots in one cut). By AI agents, Wed Nov 11 2026. No macro, syntax, notation, axiom, sorry.
-/
import Derived.Test.YtombcpghgdabaaaGreatDoorChecked
import GoSem.PinnedTables
import GoSem.Claim
import GoSem.ClaimJoined
import GoSem.ClaimMapViews
import Derived.JoinedTies
import Derived.KernelRfl
namespace Go.Proofs.YtombcpghgdabaaaGreatDoor
/- THE CELL 'sum', in the pinned program and in every row, IS THE sha256 OF THE DUMP (.gsa) THAT YtombcpghgdabaaaGreatDoorProg.lean LOADS. Nothing in Lean hashes anything: it is a label: what it is worth is what the hold of that sum in a sandbox is worth. -/
noncomputable def Tryz.pinned : Pinned := { name := "ytombcpghgdabaaagreatdoor", sum := "54fdcf1cae39a752d74331a5938fa1199f856adef45ff89a74f4abb71033746c", checked := Tryz.checked }
namespace Rows
def none {H : Type} : Left H := { results := [], args := [] }

/- WHAT THE LISTED PACKAGE-LEVEL VARIABLES READ AS WHEN THE CALL BEGINS. Each datum BY PROGRAM (the guide's laid-datum.mjs) off the statement by which the dump's own 'gosem.cut.vars' lays the variable. In a bare row this is a premise. The card (YtombcpghgdabaaaGreatDoorCards.lean) ties it to the program's text. -/
def laid_math_bits_deBruijn32tab {H : Type} : DataW H := .agg [.lit (.int .u8 0), .lit (.int .u8 1), .lit (.int .u8 28), .lit (.int .u8 2), .lit (.int .u8 29), .lit (.int .u8 14), .lit (.int .u8 24), .lit (.int .u8 3), .lit (.int .u8 30), .lit (.int .u8 22), .lit (.int .u8 20), .lit (.int .u8 15), .lit (.int .u8 25), .lit (.int .u8 17), .lit (.int .u8 4), .lit (.int .u8 8), .lit (.int .u8 31), .lit (.int .u8 27), .lit (.int .u8 13), .lit (.int .u8 23), .lit (.int .u8 21), .lit (.int .u8 19), .lit (.int .u8 16), .lit (.int .u8 7), .lit (.int .u8 26), .lit (.int .u8 12), .lit (.int .u8 18), .lit (.int .u8 6), .lit (.int .u8 11), .lit (.int .u8 5), .lit (.int .u8 10), .lit (.int .u8 9)]
def laid_math_bits_deBruijn64tab {H : Type} : DataW H := .agg [.lit (.int .u8 0), .lit (.int .u8 1), .lit (.int .u8 56), .lit (.int .u8 2), .lit (.int .u8 57), .lit (.int .u8 49), .lit (.int .u8 28), .lit (.int .u8 3), .lit (.int .u8 61), .lit (.int .u8 58), .lit (.int .u8 42), .lit (.int .u8 50), .lit (.int .u8 38), .lit (.int .u8 29), .lit (.int .u8 17), .lit (.int .u8 4), .lit (.int .u8 62), .lit (.int .u8 47), .lit (.int .u8 59), .lit (.int .u8 36), .lit (.int .u8 45), .lit (.int .u8 43), .lit (.int .u8 51), .lit (.int .u8 22), .lit (.int .u8 53), .lit (.int .u8 39), .lit (.int .u8 33), .lit (.int .u8 30), .lit (.int .u8 24), .lit (.int .u8 18), .lit (.int .u8 12), .lit (.int .u8 5), .lit (.int .u8 63), .lit (.int .u8 55), .lit (.int .u8 48), .lit (.int .u8 27), .lit (.int .u8 60), .lit (.int .u8 41), .lit (.int .u8 37), .lit (.int .u8 16), .lit (.int .u8 46), .lit (.int .u8 35), .lit (.int .u8 44), .lit (.int .u8 21), .lit (.int .u8 52), .lit (.int .u8 32), .lit (.int .u8 23), .lit (.int .u8 11), .lit (.int .u8 54), .lit (.int .u8 26), .lit (.int .u8 40), .lit (.int .u8 15), .lit (.int .u8 34), .lit (.int .u8 20), .lit (.int .u8 31), .lit (.int .u8 10), .lit (.int .u8 25), .lit (.int .u8 14), .lit (.int .u8 19), .lit (.int .u8 9), .lit (.int .u8 13), .lit (.int .u8 8), .lit (.int .u8 7), .lit (.int .u8 6)]
def laid_internal_strconv_uint64pow10 {H : Type} : DataW H := .agg [.lit (.int .u64 1), .lit (.int .u64 10), .lit (.int .u64 100), .lit (.int .u64 1000), .lit (.int .u64 10000), .lit (.int .u64 100000), .lit (.int .u64 1000000), .lit (.int .u64 10000000), .lit (.int .u64 100000000), .lit (.int .u64 1000000000), .lit (.int .u64 10000000000), .lit (.int .u64 100000000000), .lit (.int .u64 1000000000000), .lit (.int .u64 10000000000000), .lit (.int .u64 100000000000000), .lit (.int .u64 1000000000000000), .lit (.int .u64 10000000000000000), .lit (.int .u64 100000000000000000), .lit (.int .u64 1000000000000000000), .lit (.int .u64 10000000000000000000)]
def laid_unicode_utf8_acceptRanges {H : Type} : DataW H := .agg [.agg [.lit (.int .u8 128), .lit (.int .u8 191)], .agg [.lit (.int .u8 160), .lit (.int .u8 191)], .agg [.lit (.int .u8 128), .lit (.int .u8 159)], .agg [.lit (.int .u8 144), .lit (.int .u8 191)], .agg [.lit (.int .u8 128), .lit (.int .u8 143)], .agg [.lit (.int .u8 0), .lit (.int .u8 0)], .agg [.lit (.int .u8 0), .lit (.int .u8 0)], .agg [.lit (.int .u8 0), .lit (.int .u8 0)], .agg [.lit (.int .u8 0), .lit (.int .u8 0)], .agg [.lit (.int .u8 0), .lit (.int .u8 0)], .agg [.lit (.int .u8 0), .lit (.int .u8 0)], .agg [.lit (.int .u8 0), .lit (.int .u8 0)], .agg [.lit (.int .u8 0), .lit (.int .u8 0)], .agg [.lit (.int .u8 0), .lit (.int .u8 0)], .agg [.lit (.int .u8 0), .lit (.int .u8 0)], .agg [.lit (.int .u8 0), .lit (.int .u8 0)]]
/-- One of Go's own tables, pinned by name: the form's constant. -/
def laid_unicode_utf8_first : DataW Unit := Go.Pinned.utf8First

/-- 'laws.FnExactReplayEntries': WHATEVER THE INPUT: true; the input reads as it did. -/
def fnExactReplayEntriesSpec : ChangeSpec := { name := "fnExactReplayEntries", fn := fun _ => fun
  | [d] => { results := [.lit (.bool true)], args := [d] }
  | _ => none }
def fnExactReplayEntriesRow : OpenClaim := { program := "ytombcpghgdabaaagreatdoor", sum := "54fdcf1cae39a752d74331a5938fa1199f856adef45ff89a74f4abb71033746c", func := "loop.example/g01089/laws.FnExactReplayEntries", spec := "fnExactReplayEntries", inPlace := ["internal/bytealg.abigen_runtime_cmpstring", "slices.overlaps[loop.example/g01089/impl.Item]"], unfollowed := true, recurses := true, named := ["internal/strconv.uint64pow10", "math/bits.deBruijn32tab", "math/bits.deBruijn64tab"], apart := false, laid := [("math/bits.deBruijn32tab", laid_math_bits_deBruijn32tab), ("math/bits.deBruijn64tab", laid_math_bits_deBruijn64tab), ("internal/strconv.uint64pow10", laid_internal_strconv_uint64pow10)] }
def FnExactReplayEntriesSaid : Prop := fnExactReplayEntriesRow.holds Tryz.pinned (OpenSpec.ofChange fnExactReplayEntriesSpec)

/-- ITS FALSE NEIGHBOUR: 'it returns false'. Refute it at one input. -/
def fnExactReplayEntriesWrong : ChangeSpec := { name := "fnExactReplayEntries", fn := fun _ => fun
  | [d] => { results := [.lit (.bool false)], args := [d] }
  | _ => none }
def FnExactReplayEntriesWrongFalsely : Prop := fnExactReplayEntriesRow.holds Tryz.pinned (OpenSpec.ofChange fnExactReplayEntriesWrong)

/-- 'laws.FnExactSetByLine': WHATEVER THE INPUT: true; the input reads as it did. -/
def fnExactSetByLineSpec : ChangeSpec := { name := "fnExactSetByLine", fn := fun _ => fun
  | [d1, d2] => { results := [.lit (.bool true)], args := [d1, d2] }
  | _ => none }
def fnExactSetByLineRow : OpenClaim := { program := "ytombcpghgdabaaagreatdoor", sum := "54fdcf1cae39a752d74331a5938fa1199f856adef45ff89a74f4abb71033746c", func := "loop.example/g01089/laws.FnExactSetByLine", spec := "fnExactSetByLine", inPlace := ["internal/bytealg.IndexByteString", "internal/bytealg.IndexString", "internal/bytealg.CountString", "internal/bytealg.abigen_runtime_cmpstring", "slices.overlaps[loop.example/g01089/impl.Item]"], unfollowed := true, recurses := true, named := ["internal/bytealg.MaxLen", "unicode/utf8.first", "unicode/utf8.acceptRanges", "internal/strconv.uint64pow10", "math/bits.deBruijn32tab", "math/bits.deBruijn64tab"], apart := false, laid := [("math/bits.deBruijn32tab", laid_math_bits_deBruijn32tab), ("math/bits.deBruijn64tab", laid_math_bits_deBruijn64tab), ("internal/strconv.uint64pow10", laid_internal_strconv_uint64pow10), ("unicode/utf8.acceptRanges", laid_unicode_utf8_acceptRanges), ("unicode/utf8.first", laid_unicode_utf8_first)] }
def FnExactSetByLineSaid : Prop := fnExactSetByLineRow.holds Tryz.pinned (OpenSpec.ofChange fnExactSetByLineSpec)

/-- ITS FALSE NEIGHBOUR: 'it returns false'. Refute it at one input. -/
def fnExactSetByLineWrong : ChangeSpec := { name := "fnExactSetByLine", fn := fun _ => fun
  | [d1, d2] => { results := [.lit (.bool false)], args := [d1, d2] }
  | _ => none }
def FnExactSetByLineWrongFalsely : Prop := fnExactSetByLineRow.holds Tryz.pinned (OpenSpec.ofChange fnExactSetByLineWrong)

/-- 'laws.FnExactFindItem': WHATEVER THE INPUT: true; the input reads as it did. -/
def fnExactFindItemSpec : ChangeSpec := { name := "fnExactFindItem", fn := fun _ => fun
  | [d1, d2] => { results := [.lit (.bool true)], args := [d1, d2] }
  | _ => none }
def fnExactFindItemRow : OpenClaim := { program := "ytombcpghgdabaaagreatdoor", sum := "54fdcf1cae39a752d74331a5938fa1199f856adef45ff89a74f4abb71033746c", func := "loop.example/g01089/laws.FnExactFindItem", spec := "fnExactFindItem", inPlace := ["internal/bytealg.IndexByteString", "internal/bytealg.IndexString", "internal/bytealg.CountString", "internal/bytealg.abigen_runtime_cmpstring", "slices.overlaps[loop.example/g01089/impl.Item]"], unfollowed := true, recurses := true, named := ["internal/bytealg.MaxLen", "unicode/utf8.first", "unicode/utf8.acceptRanges", "internal/strconv.uint64pow10", "math/bits.deBruijn32tab", "math/bits.deBruijn64tab"], apart := false, laid := [("math/bits.deBruijn32tab", laid_math_bits_deBruijn32tab), ("math/bits.deBruijn64tab", laid_math_bits_deBruijn64tab), ("internal/strconv.uint64pow10", laid_internal_strconv_uint64pow10), ("unicode/utf8.acceptRanges", laid_unicode_utf8_acceptRanges), ("unicode/utf8.first", laid_unicode_utf8_first)] }
def FnExactFindItemSaid : Prop := fnExactFindItemRow.holds Tryz.pinned (OpenSpec.ofChange fnExactFindItemSpec)

/-- ITS FALSE NEIGHBOUR: 'it returns false'. Refute it at one input. -/
def fnExactFindItemWrong : ChangeSpec := { name := "fnExactFindItem", fn := fun _ => fun
  | [d1, d2] => { results := [.lit (.bool false)], args := [d1, d2] }
  | _ => none }
def FnExactFindItemWrongFalsely : Prop := fnExactFindItemRow.holds Tryz.pinned (OpenSpec.ofChange fnExactFindItemWrong)

/-- 'laws.FnExactEntriesOf': WHATEVER THE INPUT: true; the input reads as it did. -/
def fnExactEntriesOfSpec : ChangeSpec := { name := "fnExactEntriesOf", fn := fun _ => fun
  | [d] => { results := [.lit (.bool true)], args := [d] }
  | _ => none }
def fnExactEntriesOfRow : OpenClaim := { program := "ytombcpghgdabaaagreatdoor", sum := "54fdcf1cae39a752d74331a5938fa1199f856adef45ff89a74f4abb71033746c", func := "loop.example/g01089/laws.FnExactEntriesOf", spec := "fnExactEntriesOf", inPlace := ["internal/bytealg.IndexByteString", "internal/bytealg.IndexString", "internal/bytealg.CountString", "internal/bytealg.abigen_runtime_cmpstring", "slices.overlaps[loop.example/g01089/impl.Item]"], unfollowed := true, recurses := true, named := ["internal/bytealg.MaxLen", "unicode/utf8.first", "unicode/utf8.acceptRanges", "internal/strconv.uint64pow10", "math/bits.deBruijn32tab", "math/bits.deBruijn64tab"], apart := false, laid := [("math/bits.deBruijn32tab", laid_math_bits_deBruijn32tab), ("math/bits.deBruijn64tab", laid_math_bits_deBruijn64tab), ("internal/strconv.uint64pow10", laid_internal_strconv_uint64pow10), ("unicode/utf8.acceptRanges", laid_unicode_utf8_acceptRanges), ("unicode/utf8.first", laid_unicode_utf8_first)] }
def FnExactEntriesOfSaid : Prop := fnExactEntriesOfRow.holds Tryz.pinned (OpenSpec.ofChange fnExactEntriesOfSpec)

/-- ITS FALSE NEIGHBOUR: 'it returns false'. Refute it at one input. -/
def fnExactEntriesOfWrong : ChangeSpec := { name := "fnExactEntriesOf", fn := fun _ => fun
  | [d] => { results := [.lit (.bool false)], args := [d] }
  | _ => none }
def FnExactEntriesOfWrongFalsely : Prop := fnExactEntriesOfRow.holds Tryz.pinned (OpenSpec.ofChange fnExactEntriesOfWrong)

/-- 'laws.FnExactAppendEntry': WHATEVER THE INPUT: true; the input reads as it did. -/
def fnExactAppendEntrySpec : ChangeSpec := { name := "fnExactAppendEntry", fn := fun _ => fun
  | [d1, d2] => { results := [.lit (.bool true)], args := [d1, d2] }
  | _ => none }
def fnExactAppendEntryRow : OpenClaim := { program := "ytombcpghgdabaaagreatdoor", sum := "54fdcf1cae39a752d74331a5938fa1199f856adef45ff89a74f4abb71033746c", func := "loop.example/g01089/laws.FnExactAppendEntry", spec := "fnExactAppendEntry", inPlace := ["internal/bytealg.IndexByteString", "internal/bytealg.IndexString", "internal/bytealg.CountString", "internal/bytealg.abigen_runtime_cmpstring", "slices.overlaps[loop.example/g01089/impl.Item]"], unfollowed := true, recurses := true, named := ["internal/bytealg.MaxLen", "unicode/utf8.first", "unicode/utf8.acceptRanges", "internal/strconv.uint64pow10", "math/bits.deBruijn32tab", "math/bits.deBruijn64tab"], apart := false, laid := [("math/bits.deBruijn32tab", laid_math_bits_deBruijn32tab), ("math/bits.deBruijn64tab", laid_math_bits_deBruijn64tab), ("internal/strconv.uint64pow10", laid_internal_strconv_uint64pow10), ("unicode/utf8.acceptRanges", laid_unicode_utf8_acceptRanges), ("unicode/utf8.first", laid_unicode_utf8_first)] }
def FnExactAppendEntrySaid : Prop := fnExactAppendEntryRow.holds Tryz.pinned (OpenSpec.ofChange fnExactAppendEntrySpec)

/-- ITS FALSE NEIGHBOUR: 'it returns false'. Refute it at one input. -/
def fnExactAppendEntryWrong : ChangeSpec := { name := "fnExactAppendEntry", fn := fun _ => fun
  | [d1, d2] => { results := [.lit (.bool false)], args := [d1, d2] }
  | _ => none }
def FnExactAppendEntryWrongFalsely : Prop := fnExactAppendEntryRow.holds Tryz.pinned (OpenSpec.ofChange fnExactAppendEntryWrong)

/-- 'laws.FnExactCompactNotebook': WHATEVER THE INPUT: true; the input reads as it did. -/
def fnExactCompactNotebookSpec : ChangeSpec := { name := "fnExactCompactNotebook", fn := fun _ => fun
  | [d] => { results := [.lit (.bool true)], args := [d] }
  | _ => none }
def fnExactCompactNotebookRow : OpenClaim := { program := "ytombcpghgdabaaagreatdoor", sum := "54fdcf1cae39a752d74331a5938fa1199f856adef45ff89a74f4abb71033746c", func := "loop.example/g01089/laws.FnExactCompactNotebook", spec := "fnExactCompactNotebook", inPlace := ["internal/bytealg.IndexByteString", "internal/bytealg.IndexString", "internal/bytealg.CountString", "internal/bytealg.abigen_runtime_cmpstring", "slices.overlaps[loop.example/g01089/impl.Item]"], unfollowed := true, recurses := true, named := ["internal/bytealg.MaxLen", "unicode/utf8.first", "unicode/utf8.acceptRanges", "internal/strconv.uint64pow10", "math/bits.deBruijn32tab", "math/bits.deBruijn64tab"], apart := false, laid := [("math/bits.deBruijn32tab", laid_math_bits_deBruijn32tab), ("math/bits.deBruijn64tab", laid_math_bits_deBruijn64tab), ("internal/strconv.uint64pow10", laid_internal_strconv_uint64pow10), ("unicode/utf8.acceptRanges", laid_unicode_utf8_acceptRanges), ("unicode/utf8.first", laid_unicode_utf8_first)] }
def FnExactCompactNotebookSaid : Prop := fnExactCompactNotebookRow.holds Tryz.pinned (OpenSpec.ofChange fnExactCompactNotebookSpec)

/-- ITS FALSE NEIGHBOUR: 'it returns false'. Refute it at one input. -/
def fnExactCompactNotebookWrong : ChangeSpec := { name := "fnExactCompactNotebook", fn := fun _ => fun
  | [d] => { results := [.lit (.bool false)], args := [d] }
  | _ => none }
def FnExactCompactNotebookWrongFalsely : Prop := fnExactCompactNotebookRow.holds Tryz.pinned (OpenSpec.ofChange fnExactCompactNotebookWrong)

/-- 'laws.FnExactClaimedFormulas': WHATEVER THE INPUT: true; the input reads as it did. -/
def fnExactClaimedFormulasSpec : ChangeSpec := { name := "fnExactClaimedFormulas", fn := fun _ => fun
  | [d] => { results := [.lit (.bool true)], args := [d] }
  | _ => none }
def fnExactClaimedFormulasRow : OpenClaim := { program := "ytombcpghgdabaaagreatdoor", sum := "54fdcf1cae39a752d74331a5938fa1199f856adef45ff89a74f4abb71033746c", func := "loop.example/g01089/laws.FnExactClaimedFormulas", spec := "fnExactClaimedFormulas", inPlace := ["internal/bytealg.IndexByteString", "internal/bytealg.IndexString", "internal/bytealg.CountString", "internal/bytealg.abigen_runtime_cmpstring", "slices.overlaps[loop.example/g01089/impl.Item]"], unfollowed := true, recurses := true, named := ["internal/bytealg.MaxLen", "unicode/utf8.first", "unicode/utf8.acceptRanges", "internal/strconv.uint64pow10", "math/bits.deBruijn32tab", "math/bits.deBruijn64tab"], apart := false, laid := [("math/bits.deBruijn32tab", laid_math_bits_deBruijn32tab), ("math/bits.deBruijn64tab", laid_math_bits_deBruijn64tab), ("internal/strconv.uint64pow10", laid_internal_strconv_uint64pow10), ("unicode/utf8.acceptRanges", laid_unicode_utf8_acceptRanges), ("unicode/utf8.first", laid_unicode_utf8_first)] }
def FnExactClaimedFormulasSaid : Prop := fnExactClaimedFormulasRow.holds Tryz.pinned (OpenSpec.ofChange fnExactClaimedFormulasSpec)

/-- ITS FALSE NEIGHBOUR: 'it returns false'. Refute it at one input. -/
def fnExactClaimedFormulasWrong : ChangeSpec := { name := "fnExactClaimedFormulas", fn := fun _ => fun
  | [d] => { results := [.lit (.bool false)], args := [d] }
  | _ => none }
def FnExactClaimedFormulasWrongFalsely : Prop := fnExactClaimedFormulasRow.holds Tryz.pinned (OpenSpec.ofChange fnExactClaimedFormulasWrong)

/-- 'laws.FnExactReadNotebook': WHATEVER THE INPUT: true; the input reads as it did. -/
def fnExactReadNotebookSpec : ChangeSpec := { name := "fnExactReadNotebook", fn := fun _ => fun
  | [d] => { results := [.lit (.bool true)], args := [d] }
  | _ => none }
def fnExactReadNotebookRow : OpenClaim := { program := "ytombcpghgdabaaagreatdoor", sum := "54fdcf1cae39a752d74331a5938fa1199f856adef45ff89a74f4abb71033746c", func := "loop.example/g01089/laws.FnExactReadNotebook", spec := "fnExactReadNotebook", inPlace := ["internal/bytealg.IndexByteString", "internal/bytealg.IndexString", "internal/bytealg.CountString", "internal/bytealg.abigen_runtime_cmpstring", "slices.overlaps[loop.example/g01089/impl.Item]"], unfollowed := true, recurses := true, named := ["internal/bytealg.MaxLen", "unicode/utf8.first", "unicode/utf8.acceptRanges", "internal/strconv.uint64pow10", "math/bits.deBruijn32tab", "math/bits.deBruijn64tab"], apart := false, laid := [("math/bits.deBruijn32tab", laid_math_bits_deBruijn32tab), ("math/bits.deBruijn64tab", laid_math_bits_deBruijn64tab), ("internal/strconv.uint64pow10", laid_internal_strconv_uint64pow10), ("unicode/utf8.acceptRanges", laid_unicode_utf8_acceptRanges), ("unicode/utf8.first", laid_unicode_utf8_first)] }
def FnExactReadNotebookSaid : Prop := fnExactReadNotebookRow.holds Tryz.pinned (OpenSpec.ofChange fnExactReadNotebookSpec)

/-- ITS FALSE NEIGHBOUR: 'it returns false'. Refute it at one input. -/
def fnExactReadNotebookWrong : ChangeSpec := { name := "fnExactReadNotebook", fn := fun _ => fun
  | [d] => { results := [.lit (.bool false)], args := [d] }
  | _ => none }
def FnExactReadNotebookWrongFalsely : Prop := fnExactReadNotebookRow.holds Tryz.pinned (OpenSpec.ofChange fnExactReadNotebookWrong)

/-- 'laws.FnExactNotebookAt': WHATEVER THE INPUT: true; the input reads as it did. -/
def fnExactNotebookAtSpec : ChangeSpec := { name := "fnExactNotebookAt", fn := fun _ => fun
  | [d1, d2] => { results := [.lit (.bool true)], args := [d1, d2] }
  | _ => none }
def fnExactNotebookAtRow : OpenClaim := { program := "ytombcpghgdabaaagreatdoor", sum := "54fdcf1cae39a752d74331a5938fa1199f856adef45ff89a74f4abb71033746c", func := "loop.example/g01089/laws.FnExactNotebookAt", spec := "fnExactNotebookAt", inPlace := ["internal/bytealg.IndexByteString", "internal/bytealg.IndexString", "internal/bytealg.CountString", "internal/bytealg.abigen_runtime_cmpstring", "slices.overlaps[loop.example/g01089/impl.Item]"], unfollowed := true, recurses := true, named := ["internal/bytealg.MaxLen", "unicode/utf8.first", "unicode/utf8.acceptRanges", "internal/strconv.uint64pow10", "math/bits.deBruijn32tab", "math/bits.deBruijn64tab"], apart := false, laid := [("math/bits.deBruijn32tab", laid_math_bits_deBruijn32tab), ("math/bits.deBruijn64tab", laid_math_bits_deBruijn64tab), ("internal/strconv.uint64pow10", laid_internal_strconv_uint64pow10), ("unicode/utf8.acceptRanges", laid_unicode_utf8_acceptRanges), ("unicode/utf8.first", laid_unicode_utf8_first)] }
def FnExactNotebookAtSaid : Prop := fnExactNotebookAtRow.holds Tryz.pinned (OpenSpec.ofChange fnExactNotebookAtSpec)

/-- ITS FALSE NEIGHBOUR: 'it returns false'. Refute it at one input. -/
def fnExactNotebookAtWrong : ChangeSpec := { name := "fnExactNotebookAt", fn := fun _ => fun
  | [d1, d2] => { results := [.lit (.bool false)], args := [d1, d2] }
  | _ => none }
def FnExactNotebookAtWrongFalsely : Prop := fnExactNotebookAtRow.holds Tryz.pinned (OpenSpec.ofChange fnExactNotebookAtWrong)

/-- 'laws.FnExactMergeNotebooks': WHATEVER THE INPUT: true; the input reads as it did. -/
def fnExactMergeNotebooksSpec : ChangeSpec := { name := "fnExactMergeNotebooks", fn := fun _ => fun
  | [d1, d2] => { results := [.lit (.bool true)], args := [d1, d2] }
  | _ => none }
def fnExactMergeNotebooksRow : OpenClaim := { program := "ytombcpghgdabaaagreatdoor", sum := "54fdcf1cae39a752d74331a5938fa1199f856adef45ff89a74f4abb71033746c", func := "loop.example/g01089/laws.FnExactMergeNotebooks", spec := "fnExactMergeNotebooks", inPlace := ["internal/bytealg.IndexByteString", "internal/bytealg.IndexString", "internal/bytealg.CountString", "internal/bytealg.abigen_runtime_cmpstring", "slices.overlaps[loop.example/g01089/impl.Item]"], unfollowed := true, recurses := true, named := ["internal/bytealg.MaxLen", "unicode/utf8.first", "unicode/utf8.acceptRanges", "internal/strconv.uint64pow10", "math/bits.deBruijn32tab", "math/bits.deBruijn64tab"], apart := false, laid := [("math/bits.deBruijn32tab", laid_math_bits_deBruijn32tab), ("math/bits.deBruijn64tab", laid_math_bits_deBruijn64tab), ("internal/strconv.uint64pow10", laid_internal_strconv_uint64pow10), ("unicode/utf8.acceptRanges", laid_unicode_utf8_acceptRanges), ("unicode/utf8.first", laid_unicode_utf8_first)] }
def FnExactMergeNotebooksSaid : Prop := fnExactMergeNotebooksRow.holds Tryz.pinned (OpenSpec.ofChange fnExactMergeNotebooksSpec)

/-- ITS FALSE NEIGHBOUR: 'it returns false'. Refute it at one input. -/
def fnExactMergeNotebooksWrong : ChangeSpec := { name := "fnExactMergeNotebooks", fn := fun _ => fun
  | [d1, d2] => { results := [.lit (.bool false)], args := [d1, d2] }
  | _ => none }
def FnExactMergeNotebooksWrongFalsely : Prop := fnExactMergeNotebooksRow.holds Tryz.pinned (OpenSpec.ofChange fnExactMergeNotebooksWrong)

/- THE SECOND FORM. 'bulk': how many values and letters a reading holds, each counted each time it is reached (what is shared counts as often as it is met; a slice's spare places count too). A statement '..UptoSaid' is the law's where the arguments, and the package variables that the reading takes, are together of bulk at most 1048576: NARROWER than '..Said'. Prove '..Said' where nothing that the law and all that it calls make is longer than what came in: it says more and counts as full. Else prove '..UptoSaid'. A law counts once. -/
mutual
def uptoBulk {H : Type} : DataW H → Nat
  | .lit (.string bytes) => bytes.length + 1
  | .lit _ => 1
  | .nil => 1
  | .ptr d => uptoBulk d + 1
  | .slice elems spare => uptoBulkAll elems + uptoBulkAll spare + 1
  | .agg parts => uptoBulkAll parts + 1
  | .iface _ d => uptoBulk d + 1
  | .map entries => uptoBulkEntries entries + 1
  | .held _ => 1
def uptoBulkAll {H : Type} : List (DataW H) → Nat
  | [] => 0
  | d :: r => uptoBulk d + uptoBulkAll r
def uptoBulkEntries {H : Type} : List (Lit × DataW H) → Nat
  | [] => 0
  | x :: r => uptoBulkEntry x + uptoBulkEntries r
def uptoBulkEntry {H : Type} : Lit × DataW H → Nat
  | (.string bytes, d) => bytes.length + uptoBulk d + 1
  | (_, d) => uptoBulk d + 1
 end
def uptoSmall : (H : Type) → List (DataW H) → Bool := fun _ ds => decide (uptoBulkAll ds ≤ 1048576)
def OpenSpec.upto (s : _root_.Go.ChangeSpec) : _root_.Go.OpenSpec := { _root_.Go.OpenSpec.ofChange s with cond := some uptoSmall }

/-- 'laws.FnExactReplayEntries', WHERE WHAT IT READS IS OF BULK AT MOST 1048576: true; the input reads as it did. -/
def fnExactReplayEntriesUptoRow : OpenClaim := { program := "ytombcpghgdabaaagreatdoor", sum := "54fdcf1cae39a752d74331a5938fa1199f856adef45ff89a74f4abb71033746c", func := "loop.example/g01089/laws.FnExactReplayEntries", spec := "fnExactReplayEntries", inPlace := ["internal/bytealg.abigen_runtime_cmpstring", "slices.overlaps[loop.example/g01089/impl.Item]"], unfollowed := true, recurses := true, named := ["internal/strconv.uint64pow10", "math/bits.deBruijn32tab", "math/bits.deBruijn64tab"], apart := false, laid := [("math/bits.deBruijn32tab", laid_math_bits_deBruijn32tab), ("math/bits.deBruijn64tab", laid_math_bits_deBruijn64tab), ("internal/strconv.uint64pow10", laid_internal_strconv_uint64pow10)], narrowed := true }
def FnExactReplayEntriesUptoSaid : Prop := fnExactReplayEntriesUptoRow.holds Tryz.pinned (OpenSpec.upto fnExactReplayEntriesSpec)

/-- 'laws.FnExactSetByLine', WHERE WHAT IT READS IS OF BULK AT MOST 1048576: true; the input reads as it did. -/
def fnExactSetByLineUptoRow : OpenClaim := { program := "ytombcpghgdabaaagreatdoor", sum := "54fdcf1cae39a752d74331a5938fa1199f856adef45ff89a74f4abb71033746c", func := "loop.example/g01089/laws.FnExactSetByLine", spec := "fnExactSetByLine", inPlace := ["internal/bytealg.IndexByteString", "internal/bytealg.IndexString", "internal/bytealg.CountString", "internal/bytealg.abigen_runtime_cmpstring", "slices.overlaps[loop.example/g01089/impl.Item]"], unfollowed := true, recurses := true, named := ["internal/bytealg.MaxLen", "unicode/utf8.first", "unicode/utf8.acceptRanges", "internal/strconv.uint64pow10", "math/bits.deBruijn32tab", "math/bits.deBruijn64tab"], apart := false, laid := [("math/bits.deBruijn32tab", laid_math_bits_deBruijn32tab), ("math/bits.deBruijn64tab", laid_math_bits_deBruijn64tab), ("internal/strconv.uint64pow10", laid_internal_strconv_uint64pow10), ("unicode/utf8.acceptRanges", laid_unicode_utf8_acceptRanges), ("unicode/utf8.first", laid_unicode_utf8_first)], narrowed := true }
def FnExactSetByLineUptoSaid : Prop := fnExactSetByLineUptoRow.holds Tryz.pinned (OpenSpec.upto fnExactSetByLineSpec)

/-- 'laws.FnExactFindItem', WHERE WHAT IT READS IS OF BULK AT MOST 1048576: true; the input reads as it did. -/
def fnExactFindItemUptoRow : OpenClaim := { program := "ytombcpghgdabaaagreatdoor", sum := "54fdcf1cae39a752d74331a5938fa1199f856adef45ff89a74f4abb71033746c", func := "loop.example/g01089/laws.FnExactFindItem", spec := "fnExactFindItem", inPlace := ["internal/bytealg.IndexByteString", "internal/bytealg.IndexString", "internal/bytealg.CountString", "internal/bytealg.abigen_runtime_cmpstring", "slices.overlaps[loop.example/g01089/impl.Item]"], unfollowed := true, recurses := true, named := ["internal/bytealg.MaxLen", "unicode/utf8.first", "unicode/utf8.acceptRanges", "internal/strconv.uint64pow10", "math/bits.deBruijn32tab", "math/bits.deBruijn64tab"], apart := false, laid := [("math/bits.deBruijn32tab", laid_math_bits_deBruijn32tab), ("math/bits.deBruijn64tab", laid_math_bits_deBruijn64tab), ("internal/strconv.uint64pow10", laid_internal_strconv_uint64pow10), ("unicode/utf8.acceptRanges", laid_unicode_utf8_acceptRanges), ("unicode/utf8.first", laid_unicode_utf8_first)], narrowed := true }
def FnExactFindItemUptoSaid : Prop := fnExactFindItemUptoRow.holds Tryz.pinned (OpenSpec.upto fnExactFindItemSpec)

/-- 'laws.FnExactEntriesOf', WHERE WHAT IT READS IS OF BULK AT MOST 1048576: true; the input reads as it did. -/
def fnExactEntriesOfUptoRow : OpenClaim := { program := "ytombcpghgdabaaagreatdoor", sum := "54fdcf1cae39a752d74331a5938fa1199f856adef45ff89a74f4abb71033746c", func := "loop.example/g01089/laws.FnExactEntriesOf", spec := "fnExactEntriesOf", inPlace := ["internal/bytealg.IndexByteString", "internal/bytealg.IndexString", "internal/bytealg.CountString", "internal/bytealg.abigen_runtime_cmpstring", "slices.overlaps[loop.example/g01089/impl.Item]"], unfollowed := true, recurses := true, named := ["internal/bytealg.MaxLen", "unicode/utf8.first", "unicode/utf8.acceptRanges", "internal/strconv.uint64pow10", "math/bits.deBruijn32tab", "math/bits.deBruijn64tab"], apart := false, laid := [("math/bits.deBruijn32tab", laid_math_bits_deBruijn32tab), ("math/bits.deBruijn64tab", laid_math_bits_deBruijn64tab), ("internal/strconv.uint64pow10", laid_internal_strconv_uint64pow10), ("unicode/utf8.acceptRanges", laid_unicode_utf8_acceptRanges), ("unicode/utf8.first", laid_unicode_utf8_first)], narrowed := true }
def FnExactEntriesOfUptoSaid : Prop := fnExactEntriesOfUptoRow.holds Tryz.pinned (OpenSpec.upto fnExactEntriesOfSpec)

/-- 'laws.FnExactAppendEntry', WHERE WHAT IT READS IS OF BULK AT MOST 1048576: true; the input reads as it did. -/
def fnExactAppendEntryUptoRow : OpenClaim := { program := "ytombcpghgdabaaagreatdoor", sum := "54fdcf1cae39a752d74331a5938fa1199f856adef45ff89a74f4abb71033746c", func := "loop.example/g01089/laws.FnExactAppendEntry", spec := "fnExactAppendEntry", inPlace := ["internal/bytealg.IndexByteString", "internal/bytealg.IndexString", "internal/bytealg.CountString", "internal/bytealg.abigen_runtime_cmpstring", "slices.overlaps[loop.example/g01089/impl.Item]"], unfollowed := true, recurses := true, named := ["internal/bytealg.MaxLen", "unicode/utf8.first", "unicode/utf8.acceptRanges", "internal/strconv.uint64pow10", "math/bits.deBruijn32tab", "math/bits.deBruijn64tab"], apart := false, laid := [("math/bits.deBruijn32tab", laid_math_bits_deBruijn32tab), ("math/bits.deBruijn64tab", laid_math_bits_deBruijn64tab), ("internal/strconv.uint64pow10", laid_internal_strconv_uint64pow10), ("unicode/utf8.acceptRanges", laid_unicode_utf8_acceptRanges), ("unicode/utf8.first", laid_unicode_utf8_first)], narrowed := true }
def FnExactAppendEntryUptoSaid : Prop := fnExactAppendEntryUptoRow.holds Tryz.pinned (OpenSpec.upto fnExactAppendEntrySpec)

/-- 'laws.FnExactCompactNotebook', WHERE WHAT IT READS IS OF BULK AT MOST 1048576: true; the input reads as it did. -/
def fnExactCompactNotebookUptoRow : OpenClaim := { program := "ytombcpghgdabaaagreatdoor", sum := "54fdcf1cae39a752d74331a5938fa1199f856adef45ff89a74f4abb71033746c", func := "loop.example/g01089/laws.FnExactCompactNotebook", spec := "fnExactCompactNotebook", inPlace := ["internal/bytealg.IndexByteString", "internal/bytealg.IndexString", "internal/bytealg.CountString", "internal/bytealg.abigen_runtime_cmpstring", "slices.overlaps[loop.example/g01089/impl.Item]"], unfollowed := true, recurses := true, named := ["internal/bytealg.MaxLen", "unicode/utf8.first", "unicode/utf8.acceptRanges", "internal/strconv.uint64pow10", "math/bits.deBruijn32tab", "math/bits.deBruijn64tab"], apart := false, laid := [("math/bits.deBruijn32tab", laid_math_bits_deBruijn32tab), ("math/bits.deBruijn64tab", laid_math_bits_deBruijn64tab), ("internal/strconv.uint64pow10", laid_internal_strconv_uint64pow10), ("unicode/utf8.acceptRanges", laid_unicode_utf8_acceptRanges), ("unicode/utf8.first", laid_unicode_utf8_first)], narrowed := true }
def FnExactCompactNotebookUptoSaid : Prop := fnExactCompactNotebookUptoRow.holds Tryz.pinned (OpenSpec.upto fnExactCompactNotebookSpec)

/-- 'laws.FnExactClaimedFormulas', WHERE WHAT IT READS IS OF BULK AT MOST 1048576: true; the input reads as it did. -/
def fnExactClaimedFormulasUptoRow : OpenClaim := { program := "ytombcpghgdabaaagreatdoor", sum := "54fdcf1cae39a752d74331a5938fa1199f856adef45ff89a74f4abb71033746c", func := "loop.example/g01089/laws.FnExactClaimedFormulas", spec := "fnExactClaimedFormulas", inPlace := ["internal/bytealg.IndexByteString", "internal/bytealg.IndexString", "internal/bytealg.CountString", "internal/bytealg.abigen_runtime_cmpstring", "slices.overlaps[loop.example/g01089/impl.Item]"], unfollowed := true, recurses := true, named := ["internal/bytealg.MaxLen", "unicode/utf8.first", "unicode/utf8.acceptRanges", "internal/strconv.uint64pow10", "math/bits.deBruijn32tab", "math/bits.deBruijn64tab"], apart := false, laid := [("math/bits.deBruijn32tab", laid_math_bits_deBruijn32tab), ("math/bits.deBruijn64tab", laid_math_bits_deBruijn64tab), ("internal/strconv.uint64pow10", laid_internal_strconv_uint64pow10), ("unicode/utf8.acceptRanges", laid_unicode_utf8_acceptRanges), ("unicode/utf8.first", laid_unicode_utf8_first)], narrowed := true }
def FnExactClaimedFormulasUptoSaid : Prop := fnExactClaimedFormulasUptoRow.holds Tryz.pinned (OpenSpec.upto fnExactClaimedFormulasSpec)

/-- 'laws.FnExactReadNotebook', WHERE WHAT IT READS IS OF BULK AT MOST 1048576: true; the input reads as it did. -/
def fnExactReadNotebookUptoRow : OpenClaim := { program := "ytombcpghgdabaaagreatdoor", sum := "54fdcf1cae39a752d74331a5938fa1199f856adef45ff89a74f4abb71033746c", func := "loop.example/g01089/laws.FnExactReadNotebook", spec := "fnExactReadNotebook", inPlace := ["internal/bytealg.IndexByteString", "internal/bytealg.IndexString", "internal/bytealg.CountString", "internal/bytealg.abigen_runtime_cmpstring", "slices.overlaps[loop.example/g01089/impl.Item]"], unfollowed := true, recurses := true, named := ["internal/bytealg.MaxLen", "unicode/utf8.first", "unicode/utf8.acceptRanges", "internal/strconv.uint64pow10", "math/bits.deBruijn32tab", "math/bits.deBruijn64tab"], apart := false, laid := [("math/bits.deBruijn32tab", laid_math_bits_deBruijn32tab), ("math/bits.deBruijn64tab", laid_math_bits_deBruijn64tab), ("internal/strconv.uint64pow10", laid_internal_strconv_uint64pow10), ("unicode/utf8.acceptRanges", laid_unicode_utf8_acceptRanges), ("unicode/utf8.first", laid_unicode_utf8_first)], narrowed := true }
def FnExactReadNotebookUptoSaid : Prop := fnExactReadNotebookUptoRow.holds Tryz.pinned (OpenSpec.upto fnExactReadNotebookSpec)

/-- 'laws.FnExactNotebookAt', WHERE WHAT IT READS IS OF BULK AT MOST 1048576: true; the input reads as it did. -/
def fnExactNotebookAtUptoRow : OpenClaim := { program := "ytombcpghgdabaaagreatdoor", sum := "54fdcf1cae39a752d74331a5938fa1199f856adef45ff89a74f4abb71033746c", func := "loop.example/g01089/laws.FnExactNotebookAt", spec := "fnExactNotebookAt", inPlace := ["internal/bytealg.IndexByteString", "internal/bytealg.IndexString", "internal/bytealg.CountString", "internal/bytealg.abigen_runtime_cmpstring", "slices.overlaps[loop.example/g01089/impl.Item]"], unfollowed := true, recurses := true, named := ["internal/bytealg.MaxLen", "unicode/utf8.first", "unicode/utf8.acceptRanges", "internal/strconv.uint64pow10", "math/bits.deBruijn32tab", "math/bits.deBruijn64tab"], apart := false, laid := [("math/bits.deBruijn32tab", laid_math_bits_deBruijn32tab), ("math/bits.deBruijn64tab", laid_math_bits_deBruijn64tab), ("internal/strconv.uint64pow10", laid_internal_strconv_uint64pow10), ("unicode/utf8.acceptRanges", laid_unicode_utf8_acceptRanges), ("unicode/utf8.first", laid_unicode_utf8_first)], narrowed := true }
def FnExactNotebookAtUptoSaid : Prop := fnExactNotebookAtUptoRow.holds Tryz.pinned (OpenSpec.upto fnExactNotebookAtSpec)

/-- 'laws.FnExactMergeNotebooks', WHERE WHAT IT READS IS OF BULK AT MOST 1048576: true; the input reads as it did. -/
def fnExactMergeNotebooksUptoRow : OpenClaim := { program := "ytombcpghgdabaaagreatdoor", sum := "54fdcf1cae39a752d74331a5938fa1199f856adef45ff89a74f4abb71033746c", func := "loop.example/g01089/laws.FnExactMergeNotebooks", spec := "fnExactMergeNotebooks", inPlace := ["internal/bytealg.IndexByteString", "internal/bytealg.IndexString", "internal/bytealg.CountString", "internal/bytealg.abigen_runtime_cmpstring", "slices.overlaps[loop.example/g01089/impl.Item]"], unfollowed := true, recurses := true, named := ["internal/bytealg.MaxLen", "unicode/utf8.first", "unicode/utf8.acceptRanges", "internal/strconv.uint64pow10", "math/bits.deBruijn32tab", "math/bits.deBruijn64tab"], apart := false, laid := [("math/bits.deBruijn32tab", laid_math_bits_deBruijn32tab), ("math/bits.deBruijn64tab", laid_math_bits_deBruijn64tab), ("internal/strconv.uint64pow10", laid_internal_strconv_uint64pow10), ("unicode/utf8.acceptRanges", laid_unicode_utf8_acceptRanges), ("unicode/utf8.first", laid_unicode_utf8_first)], narrowed := true }
def FnExactMergeNotebooksUptoSaid : Prop := fnExactMergeNotebooksUptoRow.holds Tryz.pinned (OpenSpec.upto fnExactMergeNotebooksSpec)

end Rows
end Go.Proofs.YtombcpghgdabaaaGreatDoor
