/- The law on AreAlike: what its body answers. Conditions: none. -/
import Derived.Test.YtoolpnkcmlebkaaC33
import Derived.Test.YtoolpnkcmlebkaaLw3
namespace Go.Proofs.Ytoolpnkcmlebkaa
open Go.Vc
theorem ok_laws_FnExactAreAlike {w : World} {v0 v1 : Value} {l0 l1 : List Int} (hs0 : SlI w v0 l0) (hs1 : SlI w v1 l1) (n0 n1 : Int) : Ret Try.prog f_laws_FnExactAreAlike #[.agg #[.int .i64 n0, v0], .agg #[.int .i64 n1, v1]] w (.bool true) := by
  apply c_laws_FnExactAreAlike; unfold S_laws_FnExactAreAlike
  exact law2b (by decide) (by decide) ⟨fun hs n left h0 => ok_laws_szPoset hs n left h0, fun hs n hl => ok_laws_toPoset hs n hl, fun hs hs' n n' => ok_laws_eqPoset hs hs' n n'⟩ ok_spec_AreAlike ok_impl_AreAlike hs0 hs1 n0 n1
end Go.Proofs.Ytoolpnkcmlebkaa
