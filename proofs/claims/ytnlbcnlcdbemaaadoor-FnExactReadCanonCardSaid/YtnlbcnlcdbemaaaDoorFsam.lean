/- Contracts: sameSize, l05Two. -/
import Derived.Test.YtnlbcnlcdbemaaaDoorFrok
namespace Go.Proofs.YtnlbcnlcdbemaaaDoor
open Go.RowKit
def sameOk (n m : Int) (l l' : List Int) : Prop := RhyOk n l ∧ RhyOk m l' ∧ n = m
instance (n m : Int) (l l' : List Int) : Decidable (sameOk n m l l') := by unfold sameOk; infer_instance
end Go.Proofs.YtnlbcnlcdbemaaaDoor
