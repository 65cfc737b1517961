/- Contract: l02Has: is a number in a list. -/
import Derived.Test.YtkdodbhkobefiaaDoorMem
namespace Go.Proofs.YtkdodbhkobefiaaDoor
open Go.RowKit
end Go.Proofs.YtkdodbhkobefiaaDoor
