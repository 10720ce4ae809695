/- Contracts of the functions on frames. Conditions: none. -/
import Derived.Test.YtoolpnkcmlebkaaGreatC01
namespace Go.Proofs.YtoolpnkcmlebkaaGreat
open Go.Vc

/-- A frame: the number of worlds, and what each sees. -/
def frameOk (n : Int) (l : List Int) : Bool := decide (0 ≤ n ∧ n ≤ 8) && decide ((l.length : Int) = n) && l.all (maskB n.toNat)
end Go.Proofs.YtoolpnkcmlebkaaGreat
