/- Contracts: all maps between two frames. Conditions: none. -/
import Derived.Test.YtoolpnkcmlebkaaGreatC13
namespace Go.Proofs.YtoolpnkcmlebkaaGreat
open Go.Vc
end Go.Proofs.YtoolpnkcmlebkaaGreat
