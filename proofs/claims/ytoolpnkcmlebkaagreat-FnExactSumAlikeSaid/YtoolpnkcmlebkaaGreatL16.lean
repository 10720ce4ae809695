/- The law on SumAlike: what its body answers. Conditions: none. -/
import Derived.Test.YtoolpnkcmlebkaaGreatC34
import Derived.Test.YtoolpnkcmlebkaaGreatLw3
namespace Go.Proofs.YtoolpnkcmlebkaaGreat
open Go.Vc
theorem ok_laws_FnExactSumAlike {w : World} {v0 v1 : Value} {l0 l1 : List Int} (hs0 : SlI w v0 l0) (hs1 : SlI w v1 l1) (n0 n1 : Int) : Ret Tryz.prog f_laws_FnExactSumAlike #[.agg #[.int .i64 n0, v0], .agg #[.int .i64 n1, v1]] w (.bool true) := by
  apply c_laws_FnExactSumAlike; unfold S_laws_FnExactSumAlike
  exact law2b (by decide) (by decide) ⟨fun hs n left h0 => ok_laws_szPoset hs n left h0, fun hs n hl => ok_laws_toPoset hs n hl, fun hs hs' n n' => ok_laws_eqPoset hs hs' n n'⟩ ok_spec_SumAlike ok_impl_SumAlike hs0 hs1 n0 n1
end Go.Proofs.YtoolpnkcmlebkaaGreat
