/- The law on AllMorphisms: what its body answers. Conditions: none. -/
import Derived.Test.YtgbnmihpjlbfgaaC14
namespace Go.Proofs.Ytgbnmihpjlbfgaa
open Go.Vc
theorem ok_laws_FnExactAllMorphisms {w : World} {v0 v1 : Value} {l0 l1 : List Int} (hs0 : SlI w v0 l0) (hs1 : SlI w v1 l1) (n0 n1 : Int) : Ret Try.prog f_laws_FnExactAllMorphisms #[.agg #[.int .i64 n0, v0], .agg #[.int .i64 n1, v1]] w (.bool true) := by
  apply c_laws_FnExactAllMorphisms; unfold S_laws_FnExactAllMorphisms
  exact law2 (by decide) (by decide) (by decide) frFrame (resLists ok_spec_AllMorphisms ok_impl_AllMorphisms allOut_small) hs0 hs1 n0 n1
end Go.Proofs.Ytgbnmihpjlbfgaa
