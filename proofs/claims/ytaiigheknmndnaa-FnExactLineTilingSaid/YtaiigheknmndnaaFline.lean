/- Contracts: CanGoOn, BlockLength, FailTime on both sides. -/
import Derived.Test.YtaiigheknmndnaaFblock
import Derived.Test.YtaiigheknmndnaaFhas
namespace Go.Proofs.Ytaiigheknmndnaa
open Go.RowKit
theorem fst_t {l : List Int} (h : (outc l).1 = true) : ∃ p es, outc l = (true, p, es) := ⟨_, _, by rw [← h]⟩
theorem fst_f {l : List Int} (h : ¬ (outc l).1 = true) : ∃ p, outc l = (false, p, []) := by
  have h1 : (outc l).1 = false := by simpa using h
  exact ⟨(outc l).2.1, by rw [← h1, ← outc_nil h1]⟩
def canB (l : List Int) : Bool := (outc l).1
def blkLen (l : List Int) : Int := if (outc l).1 = true ∧ (outc l).2.1 ≤ 200 then ((outc l).2.1 : Nat) else 0
def failT (l : List Int) : Int := if patB l = true ∧ (outc l).1 = false then ((outc l).2.1 : Nat) else -1
def linP (l : List Int) : Int := if (outc l).1 = true then ((outc l).2.1 : Nat) else 0

end Go.Proofs.Ytaiigheknmndnaa
