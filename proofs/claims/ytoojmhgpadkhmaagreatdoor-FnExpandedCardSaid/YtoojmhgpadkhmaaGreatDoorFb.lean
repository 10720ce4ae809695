/- Closed facts on the program that FnExpanded's seat loads: the words on its listed variables. Conditions: none. -/
import Derived.Test.YtoojmhgpadkhmaaGreatDoorProg
import GoSem.Claim
import Derived.KernelRfl
import Derived.LaidByTextLater
import Derived.LaidOnce
namespace Go.Proofs.YtoojmhgpadkhmaaGreatDoor
namespace R56
open Go
set_option maxRecDepth 100000
theorem kb0 : Tryz.prog.kindBase "unicode/utf8.acceptRanges" = some .data := by kernel_rfl
theorem kb1 : Tryz.prog.kindBase "loop.example/g01089/impl.intermediateNames" = some .data := by kernel_rfl
theorem kb2 : Tryz.prog.kindBase "internal/strconv.uint64pow10" = some .data := by kernel_rfl
theorem kb3 : Tryz.prog.kindBase "math/bits.deBruijn32tab" = some .data := by kernel_rfl
theorem kb4 : Tryz.prog.kindBase "math/bits.deBruijn64tab" = some .data := by kernel_rfl
theorem wA : Tryz.prog.worded (varsWordLater true) = true := by kernel_rfl
theorem wB : Tryz.prog.worded (varsWordLater !true) = false := by kernel_rfl
theorem wC : Tryz.prog.worded rootWordLater = true := by kernel_rfl
theorem wD : (Tryz.prog.funcNamed "gosem.cut.vars").isSome = true := by kernel_rfl
theorem pinF : Tryz.prog.pinnedFits "unicode/utf8.first" = true := by kernel_rfl
theorem noOwn : Tryz.prog.headLifts.contains "ownunsafe" = false := by kernel_rfl
end R56
end Go.Proofs.YtoojmhgpadkhmaaGreatDoor
