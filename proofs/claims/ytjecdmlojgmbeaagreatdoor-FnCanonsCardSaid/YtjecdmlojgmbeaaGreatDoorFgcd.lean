/- Contracts: gcd, l02Gcd, l16Common, CommonPulses. -/
import Derived.Test.YtjecdmlojgmbeaaGreatDoorFa
namespace Go.Proofs.YtjecdmlojgmbeaaGreatDoor
open Go.RowKit

def cpN (k m : Nat) : Nat := k / Nat.gcd k m * m
def cpI (k m : Int) : Int := if 1 ≤ k ∧ k ≤ 12 ∧ 1 ≤ m ∧ m ≤ 12 ∧ cpN k.toNat m.toNat ≤ 24 then cpN k.toNat m.toNat else 0
theorem cpN_le {k m : Nat} (hk : k ≤ 1000) (hm : m ≤ 1000) : cpN k m ≤ 1000000 := by
  unfold cpN
  have : k / Nat.gcd k m ≤ k := Nat.div_le_self _ _
  exact Nat.le_trans (Nat.mul_le_mul (Nat.le_trans this hk) hm) (by decide)
theorem cp_wrap {k m : Nat} (hk : k ≤ 1000) (hm : m ≤ 1000) : ∃ q : Nat, IntKind.i64.wrap ((k : Int) / (Nat.gcd k m : Int)) = (q : Int) ∧ IntKind.i64.wrap ((q : Int) * (m : Int)) = (cpN k m : Int) := by
  have h1 := cpN_le hk hm
  have h2 : k / Nat.gcd k m ≤ k := Nat.div_le_self _ _
  refine ⟨k / Nat.gcd k m, ?_, ?_⟩
  · rw [← Int.natCast_ediv]
    generalize k / Nat.gcd k m = q at *
    exact IntWalk.i64_in _ (by omega)
  · have e : ((k / Nat.gcd k m : Nat) : Int) * (m : Int) = (cpN k m : Int) := by
      unfold cpN; rw [Int.natCast_mul]
    rw [e]
    exact IntWalk.i64_in _ (by omega)

end Go.Proofs.YtjecdmlojgmbeaaGreatDoor
