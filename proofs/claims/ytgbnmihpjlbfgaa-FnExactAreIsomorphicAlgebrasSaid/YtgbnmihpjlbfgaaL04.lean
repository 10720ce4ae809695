/- The law on AreIsomorphicAlgebras: what its body answers. Conditions: none. -/
import Derived.Test.YtgbnmihpjlbfgaaC16
namespace Go.Proofs.Ytgbnmihpjlbfgaa
open Go.Vc
theorem ok_laws_FnExactAreIsomorphicAlgebras {w : World} {v0 v1 : Value} {l0 l1 : List Int} (hs0 : SlI w v0 l0) (hs1 : SlI w v1 l1) (n0 n1 : Int) : Ret Try.prog f_laws_FnExactAreIsomorphicAlgebras #[.agg #[.int .i64 n0, v0], .agg #[.int .i64 n1, v1]] w (.bool true) := by
  apply c_laws_FnExactAreIsomorphicAlgebras; unfold S_laws_FnExactAreIsomorphicAlgebras
  exact law2b (by decide) (by decide) ⟨fun hs n left h0 => ok_laws_szModalAlgebra hs n left h0, fun hs n hl => ok_laws_toModalAlgebra hs n hl, fun hs hs' n n' => ok_laws_eqModalAlgebra hs hs' n n'⟩ ok_spec_AreIsomorphicAlgebras ok_impl_AreIsomorphicAlgebras hs0 hs1 n0 n1
end Go.Proofs.Ytgbnmihpjlbfgaa
