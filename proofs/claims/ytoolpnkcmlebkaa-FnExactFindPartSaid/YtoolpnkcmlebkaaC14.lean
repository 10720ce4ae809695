/- Contracts: all maps between two frames. Conditions: none. -/
import Derived.Test.YtoolpnkcmlebkaaC13
namespace Go.Proofs.Ytoolpnkcmlebkaa
open Go.Vc
end Go.Proofs.Ytoolpnkcmlebkaa
