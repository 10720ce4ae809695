/- The law on FindImage: what its body answers. Conditions: none. -/
import Derived.Test.YtgbnmihpjlbfgaaC25
namespace Go.Proofs.Ytgbnmihpjlbfgaa
open Go.Vc
theorem imageOut_small (n0 : Int) (l0 : List Int) (n1 : Int) (l1 : List Int) : (imageOut n0 l0 n1 l1).1.length ≤ 1000000000 := by
  unfold imageOut
  split
  · exact firstOut_small true false n0 l0 n1 l1
  · simp
theorem ok_laws_FnExactFindImage {w : World} {v0 v1 : Value} {l0 l1 : List Int} (hs0 : SlI w v0 l0) (hs1 : SlI w v1 l1) (n0 n1 : Int) : Ret Try.prog f_laws_FnExactFindImage #[.agg #[.int .i64 n0, v0], .agg #[.int .i64 n1, v1]] w (.bool true) := by
  apply c_laws_FnExactFindImage; unfold S_laws_FnExactFindImage
  exact law2 (by decide) (by decide) (by decide) frPoset (resList ok_spec_FindImage ok_impl_FindImage imageOut_small) hs0 hs1 n0 n1
end Go.Proofs.Ytgbnmihpjlbfgaa
