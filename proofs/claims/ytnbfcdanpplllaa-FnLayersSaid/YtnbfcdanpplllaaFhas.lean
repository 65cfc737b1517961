/- Contract: l02Has: is a number in a list. -/
import Derived.Test.YtnbfcdanpplllaaMem
namespace Go.Proofs.Ytnbfcdanpplllaa
open Go.RowKit
end Go.Proofs.Ytnbfcdanpplllaa
