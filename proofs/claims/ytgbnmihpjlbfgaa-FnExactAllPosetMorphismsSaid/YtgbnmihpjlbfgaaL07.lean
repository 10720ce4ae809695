/- The law on AllPosetMorphisms: what its body answers. Conditions: none. -/
import Derived.Test.YtgbnmihpjlbfgaaC29
namespace Go.Proofs.Ytgbnmihpjlbfgaa
open Go.Vc
theorem allPOut_small (n0 : Int) (l0 : List Int) (n1 : Int) (l1 : List Int) : tot (allPOut n0 l0 n1 l1).1 ≤ 1000000000 := by
  unfold allPOut
  split
  · exact allOut_small n0 l0 n1 l1
  · simp [tot]
theorem ok_laws_FnExactAllPosetMorphisms {w : World} {v0 v1 : Value} {l0 l1 : List Int} (hs0 : SlI w v0 l0) (hs1 : SlI w v1 l1) (n0 n1 : Int) : Ret Try.prog f_laws_FnExactAllPosetMorphisms #[.agg #[.int .i64 n0, v0], .agg #[.int .i64 n1, v1]] w (.bool true) := by
  apply c_laws_FnExactAllPosetMorphisms; unfold S_laws_FnExactAllPosetMorphisms
  exact law2 (by decide) (by decide) (by decide) frPoset (resLists ok_spec_AllPosetMorphisms ok_impl_AllPosetMorphisms allPOut_small) hs0 hs1 n0 n1
end Go.Proofs.Ytgbnmihpjlbfgaa
