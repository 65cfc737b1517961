/- From the condition on the tables of unicode/utf8 to the door: the world in which they lie. -/
import Derived.Test.YtjecdmlojgmbeaaGreatDoorTie
import Derived.Test.YtjecdmlojgmbeaaGreatDoorCards
import Derived.Test.YtjecdmlojgmbeaaGreatDoorGlue
import Derived.LaidMore
import Derived.Stop.LaidErr
import Derived.LaidHandle
import Derived.Lay
import Derived.PinnedBridge
import Derived.SevenTiedAt
namespace Go.Proofs.YtjecdmlojgmbeaaGreatDoor
open Go.ChangeShapes Go.WideShapes Go.ChangeAt Go.RowKit
def laidD : List (String × DataW Unit) := [("unicode/utf8.acceptRanges", Rows.laid_unicode_utf8_acceptRanges), ("unicode/utf8.first", Rows.laid_unicode_utf8_first)]
set_option maxRecDepth 100000 in
theorem door_met (os : Os) (args : Array Value) : laidMetH Tryz.prog laidD ((World.laidAll Tryz.prog os laidD).forCall (fun _ _ => 0) ⟨#[], args, []⟩).memory := by
  rw [MakeChecks.laidMetH_plain _ _ _ (by kernel_rfl)]
  exact laidMet_laidAll args (by kernel_rfl) (by kernel_rfl)
end Go.Proofs.YtjecdmlojgmbeaaGreatDoor
