/- Contracts: l02Of, layer, l06Even. -/
import Derived.Test.YtjkgioimefagoaaRhy
import Derived.Test.YtjkgioimefagoaaFhas
import Derived.Outline
import Derived.Deep.RegionLaw
namespace Go.Proofs.Ytjkgioimefagoaa
open Go.RowKit
end Go.Proofs.Ytjkgioimefagoaa
