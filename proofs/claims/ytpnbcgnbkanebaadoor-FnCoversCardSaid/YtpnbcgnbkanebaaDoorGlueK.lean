/- From the condition on the tables of math/bits to what the walks ask; the world in which they lie. -/
import Derived.Test.YtpnbcgnbkanebaaDoorTie
import Derived.Test.YtpnbcgnbkanebaaDoorCards
import Derived.Test.YtpnbcgnbkanebaaDoorGlue
import Derived.Shelf.Spec.TrailingZeros
import Derived.LaidMore
import Derived.Lib.LaidTab
import Derived.Stop.LaidErr
import Derived.SevenTiedAt
namespace Go.Proofs.YtpnbcgnbkanebaaDoor
open Go.ChangeShapes Go.WideShapes Go.ChangeAt Go.RowKit
theorem Own.form {w : World} {B : Nat} {v : Value} {l : List Int} (h : Own w B v l) : ∃ A n c, v = .slice A n c := by
  obtain ⟨A, c, hv, _, _⟩ := h.slice
  exact ⟨A, _, c, hv⟩
def laidD {H : Type} : List (String × DataW H) := [("math/bits.deBruijn32tab", Rows.laid_math_bits_deBruijn32tab), ("math/bits.deBruijn64tab", Rows.laid_math_bits_deBruijn64tab)]
theorem door_met (os : Os) (args : Array Value) : laidMetH Tryd.prog laidD ((World.doorLaid Tryd.prog 400 os).forCall (fun _ _ => 0) ⟨#[], args, []⟩).memory :=
  laidMetH_of_parts3 (fuel := 8) (laidMet_of_run' 8 (by kernel_rfl) (by kernel_rfl)) (by kernel_rfl) (by kernel_rfl)
theorem tab_of {W : World} (h : laidMetH Tryd.prog laidD W) : TabAt 1 Lib.deBruijn64tab W := by
  rw [MakeChecks.laidMetH_plain _ _ _ (by kernel_rfl)] at h
  have h2 := laidMet.tail h
  have hg : Tryd.prog.globalNamed "math/bits.deBruijn64tab" = some 1 := by kernel_rfl
  have hty : (Tryd.prog.globals[1]?).map (·.type) = some 60 := by kernel_rfl
  have htab : Lib.TabIs Tryd.prog W "math/bits.deBruijn64tab" .u8 (Lib.deBruijn64tab.map fun n : Nat => (n : Int)) :=
    Lib.tabIs_of_head hg hty Tryd.underlying60 Tryd.underlying5 (by kernel_rfl) (by kernel_rfl) h2
  intro j hj
  have := htab.cell hg j (by rw [List.length_map]; exact hj)
  rw [this]
  simp [List.getD_eq_getElem?_getD, List.getElem?_map, List.getElem?_eq_getElem hj]
end Go.Proofs.YtpnbcgnbkanebaaDoor
