/- Contracts: l02Of, layer, l06Even. -/
import Derived.Test.YtkdodbhkobefiaaDoorRhy
import Derived.Test.YtkdodbhkobefiaaDoorFhas
import Derived.Outline
import Derived.Deep.RegionLaw
namespace Go.Proofs.YtkdodbhkobefiaaDoor
open Go.RowKit
end Go.Proofs.YtkdodbhkobefiaaDoor
