/- The law on FindFrameIsomorphism: what its body answers. Conditions: none. -/
import Derived.Test.YtgbnmihpjlbfgaaC28
namespace Go.Proofs.Ytgbnmihpjlbfgaa
open Go.Vc
theorem ok_laws_FnExactFindFrameIsomorphism {w : World} {v0 v1 : Value} {l0 l1 : List Int} (hs0 : SlI w v0 l0) (hs1 : SlI w v1 l1) (n0 n1 : Int) : Ret Try.prog f_laws_FnExactFindFrameIsomorphism #[.agg #[.int .i64 n0, v0], .agg #[.int .i64 n1, v1]] w (.bool true) := by
  apply c_laws_FnExactFindFrameIsomorphism; unfold S_laws_FnExactFindFrameIsomorphism
  exact law2 (by decide) (by decide) (by decide) frFrame (resList ok_spec_FindFrameIsomorphism ok_impl_FindFrameIsomorphism (firstOut_small true true)) hs0 hs1 n0 n1
end Go.Proofs.Ytgbnmihpjlbfgaa
