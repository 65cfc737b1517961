/- Contract: l14All: the covers that continue a list, behind those of the caller. -/
import Derived.Test.YtkdodbhkobefiaaDoorFvl
import Derived.Deep.RegionLaw
namespace Go.Proofs.YtkdodbhkobefiaaDoor
open Go.RowKit
end Go.Proofs.YtkdodbhkobefiaaDoor
