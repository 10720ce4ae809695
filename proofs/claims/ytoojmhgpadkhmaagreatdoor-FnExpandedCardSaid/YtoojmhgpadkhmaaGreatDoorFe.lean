/- The tie of FnExpanded's row to the program's text. Conditions: none. -/
import Derived.Test.YtoojmhgpadkhmaaGreatDoorFa
import Derived.Test.YtoojmhgpadkhmaaGreatDoorFb
import Derived.Test.YtoojmhgpadkhmaaGreatDoorCards
import Derived.SevenTiedAt
import Derived.JoinedOf
namespace Go.Proofs.YtoojmhgpadkhmaaGreatDoor
namespace R56
open Go
set_option maxRecDepth 100000
def laidD : List (String × DataW Unit) := [("unicode/utf8.acceptRanges", Rows.laid_unicode_utf8_acceptRanges), ("loop.example/g01089/impl.intermediateNames", Rows.laid_loop_example_g01089_impl_intermediateNames), ("internal/strconv.uint64pow10", Rows.laid_internal_strconv_uint64pow10), ("math/bits.deBruijn32tab", Rows.laid_math_bits_deBruijn32tab), ("math/bits.deBruijn64tab", Rows.laid_math_bits_deBruijn64tab)]
theorem kbs : ∀ x ∈ laidD, Tryz.prog.kindBase x.1 = some .data := by
  intro x hx
  simp only [laidD, List.mem_cons, List.mem_nil_iff, or_false] at hx
  rcases hx with rfl | rfl | rfl | rfl | rfl
  · exact kb0
  · exact kb1
  · exact kb2
  · exact kb3
  · exact kb4
theorem wE : namedD Tryz.prog (varsId Tryz.prog) laidD = true := by kernel_rfl
theorem wF (os : Os) (tape : Tape) : doorLeaves Tryz.prog 39 8 65 laidD os tape = some (laidD.filter fun x => x.2.handleName?.isNone, (funcsListed laidD).map (·.2.funcsOut)) := by kernel_rfl
theorem tieD : Tryz.prog.laidByTextLater laidD [.data, .data, .data, .data, .data] true :=
  Program.laidByTextLater_by_one 39 8 65 wA wB wC (kinds_of kbs) wD (named_of kbs wE) wF
theorem fits : Tryz.prog.listedFits Rows.fnExpandedRow.laid = true := by
  unfold Program.listedFits
  rw [noOwn]
  kernel_rfl
theorem rowTie : Rows.fnExpandedRow.laidByTextAt .later Tryz.pinned [.pinned, .data, .data, .data, .data, .data] true :=
  OpenClaim.laidByTextAt_pinned rfl rfl (l := laidD) tieD rfl rfl rfl rfl (fun y hy _e => by
    simp only [Rows.fnExpandedRow, List.zip_cons_cons, List.zip_nil_right, List.mem_cons, List.mem_nil_iff, or_false] at hy
    rcases hy with rfl | rfl | rfl | rfl | rfl | rfl
    · exact ⟨pinF, by kernel_rfl⟩
    · cases _e
    · cases _e
    · cases _e
    · cases _e
    · cases _e) fits
end R56
end Go.Proofs.YtoojmhgpadkhmaaGreatDoor
