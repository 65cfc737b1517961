/- Contract: l14All: the covers that continue a list, behind those of the caller. -/
import Derived.Test.YtpnbcgnbkanebaaDoorFvl
import Derived.Deep.RegionLaw
namespace Go.Proofs.YtpnbcgnbkanebaaDoor
open Go.RowKit
end Go.Proofs.YtpnbcgnbkanebaaDoor
