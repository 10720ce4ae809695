/- The law on FindOnto: what its body answers. Conditions: none. -/
import Derived.Test.YtgbnmihpjlbfgaaC12
namespace Go.Proofs.Ytgbnmihpjlbfgaa
open Go.Vc
theorem ok_laws_FnExactFindOnto {w : World} {v0 v1 : Value} {l0 l1 : List Int} (hs0 : SlI w v0 l0) (hs1 : SlI w v1 l1) (n0 n1 : Int) : Ret Try.prog f_laws_FnExactFindOnto #[.agg #[.int .i64 n0, v0], .agg #[.int .i64 n1, v1]] w (.bool true) := by
  apply c_laws_FnExactFindOnto; unfold S_laws_FnExactFindOnto
  exact law2 (by decide) (by decide) (by decide) frFrame (resList ok_spec_FindOnto ok_impl_FindOnto (firstOut_small true false)) hs0 hs1 n0 n1
end Go.Proofs.Ytgbnmihpjlbfgaa
