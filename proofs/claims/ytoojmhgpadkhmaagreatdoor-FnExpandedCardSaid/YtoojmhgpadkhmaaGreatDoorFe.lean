/- The tie of FnExpanded's row to the program's text. Conditions: none. -/
import Derived.Test.YtoojmhgpadkhmaaGreatDoorFb
import Derived.Test.YtoojmhgpadkhmaaGreatDoorCards
import Derived.SevenTiedAt
import Derived.JoinedOf
namespace Go.Proofs.YtoojmhgpadkhmaaGreatDoor
namespace R56
open Go
set_option maxRecDepth 100000
theorem kinds_of {P : Program} {laid : List (String × DataW Unit)} (h : ∀ x ∈ laid, P.kindBase x.1 = some .data) : laid.map (fun x => P.kindOfLater x.1) = (List.replicate laid.length LaidKind.data).map some := by
  induction laid with
  | nil => rfl
  | cons a l ih =>
    rw [List.map_cons, ih fun x hx => h x (List.mem_cons_of_mem _ hx), List.length_cons, List.replicate_succ, List.map_cons]
    congr 1
    unfold Program.kindOfLater
    rw [h a (List.mem_cons_self ..)]
def laidD : List (String × DataW Unit) := [("unicode/utf8.acceptRanges", Rows.laid_unicode_utf8_acceptRanges), ("loop.example/g01089/impl.intermediateNames", Rows.laid_loop_example_g01089_impl_intermediateNames), ("internal/strconv.uint64pow10", Rows.laid_internal_strconv_uint64pow10), ("math/bits.deBruijn32tab", Rows.laid_math_bits_deBruijn32tab), ("math/bits.deBruijn64tab", Rows.laid_math_bits_deBruijn64tab)]
theorem kbs : ∀ x ∈ laidD, Tryz.prog.kindBase x.1 = some .data := by
  intro x hx
  simp only [laidD, List.mem_cons, List.mem_nil_iff, or_false] at hx
  rcases hx with rfl | rfl | rfl | rfl | rfl
  · exact kb0
  · exact kb1
  · exact kb2
  · exact kb3
  · exact kb4
theorem named_cons {P : Program} {g : FuncId} {a : String × DataW Unit} {l : List (String × DataW Unit)} (h : varsNamedLaterB P g [a] = true) (k : varsNamedLaterB P g l = true) : varsNamedLaterB P g (a :: l) = true := by
  unfold varsNamedLaterB at h k ⊢
  cases hc : (P.funcs[g]?).bind (·.body) with
  | none => simp [hc] at h
  | some code =>
    cases hs : code.laysInOrder [] with
    | none => simp [hc, hs] at h
    | some stored =>
      simp only [hc, hs, List.all_cons, List.all_nil, Bool.and_true, Bool.and_eq_true] at h k ⊢
      exact ⟨h.1, h.2, k.2⟩
theorem wE0 : varsNamedLaterB Tryz.prog (varsId Tryz.prog) [("unicode/utf8.acceptRanges", Rows.laid_unicode_utf8_acceptRanges)] = true := by kernel_rfl
theorem wE1 : varsNamedLaterB Tryz.prog (varsId Tryz.prog) [("loop.example/g01089/impl.intermediateNames", Rows.laid_loop_example_g01089_impl_intermediateNames)] = true := by kernel_rfl
theorem wE2 : varsNamedLaterB Tryz.prog (varsId Tryz.prog) [("internal/strconv.uint64pow10", Rows.laid_internal_strconv_uint64pow10)] = true := by kernel_rfl
theorem wE3 : varsNamedLaterB Tryz.prog (varsId Tryz.prog) [("math/bits.deBruijn32tab", Rows.laid_math_bits_deBruijn32tab)] = true := by kernel_rfl
theorem wE4 : varsNamedLaterB Tryz.prog (varsId Tryz.prog) [("math/bits.deBruijn64tab", Rows.laid_math_bits_deBruijn64tab)] = true := by kernel_rfl
theorem wE : varsNamedLaterB Tryz.prog (varsId Tryz.prog) laidD = true := named_cons wE0 (named_cons wE1 (named_cons wE2 (named_cons wE3 wE4)))
theorem wF (os : Os) (tape : Tape) : doorLeaves Tryz.prog 39 8 65 laidD os tape = some (laidD.filter fun x => x.2.handleName?.isNone, (funcsListed laidD).map (·.2.funcsOut)) := by kernel_rfl
theorem tieD : Tryz.prog.laidByTextLater laidD [.data, .data, .data, .data, .data] true :=
  Program.laidByTextLater_by_one 39 8 65 wA wB wC (kinds_of kbs) wD wE wF
theorem fits : Tryz.prog.listedFits Rows.fnExpandedRow.laid = true := by
  unfold Program.listedFits
  rw [noOwn]
  kernel_rfl
theorem rowTie : Rows.fnExpandedRow.laidByTextAt .later Tryz.pinned [.pinned, .data, .data, .data, .data, .data] true :=
  OpenClaim.laidByTextAt_pinned rfl rfl (l := laidD) tieD rfl rfl rfl rfl (fun y hy _e => by
    simp only [Rows.fnExpandedRow, List.zip_cons_cons, List.zip_nil_right, List.mem_cons, List.mem_nil_iff, or_false] at hy
    rcases hy with rfl | rfl | rfl | rfl | rfl | rfl
    · exact ⟨pinF, by kernel_rfl⟩
    · cases _e
    · cases _e
    · cases _e
    · cases _e
    · cases _e) fits
end R56
end Go.Proofs.YtoojmhgpadkhmaaGreatDoor
