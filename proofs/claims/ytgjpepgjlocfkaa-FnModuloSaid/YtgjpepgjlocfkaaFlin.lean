/- Contracts: the machine that lays a pattern on a line: newLine, lay; l13Mask, l13Step. -/
import Derived.Test.YtgjpepgjlocfkaaFa
import Derived.Test.YtgjpepgjlocfkaaPureL
import Derived.Test.YtgjpepgjlocfkaaBlk
namespace Go.Proofs.Ytgjpepgjlocfkaa
open Go.RowKit


end Go.Proofs.Ytgjpepgjlocfkaa
