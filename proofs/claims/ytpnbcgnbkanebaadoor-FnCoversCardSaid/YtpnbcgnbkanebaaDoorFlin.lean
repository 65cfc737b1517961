/- Contracts: the machine that lays a pattern on a line: newLine, lay; l13Mask, l13Step. -/
import Derived.Test.YtpnbcgnbkanebaaDoorFa
import Derived.Test.YtpnbcgnbkanebaaDoorPureL
import Derived.Test.YtpnbcgnbkanebaaDoorBlk
namespace Go.Proofs.YtpnbcgnbkanebaaDoor
open Go.RowKit


end Go.Proofs.YtpnbcgnbkanebaaDoor
