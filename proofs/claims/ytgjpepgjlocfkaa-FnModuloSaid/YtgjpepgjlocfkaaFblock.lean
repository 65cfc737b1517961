/- Contracts: block, l13Period. -/
import Derived.Test.YtgjpepgjlocfkaaFlin
import Derived.Test.YtgjpepgjlocfkaaPureL2
namespace Go.Proofs.Ytgjpepgjlocfkaa
open Go.RowKit

end Go.Proofs.Ytgjpepgjlocfkaa
