/- Contracts: JoinRhythms on both sides. -/
import Derived.Test.YtjecdmlojgmbeaaGreatDoorFsam
import Derived.Test.YtjecdmlojgmbeaaGreatDoorFcat
import Derived.Test.YtjecdmlojgmbeaaGreatDoorFrot
namespace Go.Proofs.YtjecdmlojgmbeaaGreatDoor
open Go.RowKit
/-- the pulses of two rhythms of one size -/
def joinB (n m : Int) (l l' : List Int) : Bool := decide (sameOk n m l l')
def joinN (n m : Int) (l l' : List Int) : Int := if sameOk n m l l' then n else 0
def joinL (n m : Int) (l l' : List Int) : List Int := if sameOk n m l l' then rhL n.toNat (l ++ l') else []
theorem join_t {n : Nat} {m : Int} {l l' : List Int} (h : sameOk n m l l') : joinB n m l l' = true ∧ joinN n m l l' = n ∧ joinL n m l l' = rhL n (l ++ l') := by
  unfold joinB joinN joinL
  rw [if_pos h, if_pos h]
  exact ⟨by simpa using h, rfl, by simp⟩
theorem join_f {n m : Int} {l l' : List Int} (h : ¬ sameOk n m l l') : joinB n m l l' = false ∧ joinN n m l l' = 0 ∧ joinL n m l l' = [] := by
  unfold joinB joinN joinL
  rw [if_neg h, if_neg h]
  exact ⟨by simpa using h, rfl, rfl⟩
theorem remL_id {n : Nat} {l : List Int} (h : ∀ x ∈ l, 0 ≤ x ∧ x < n) : remL n l = l := by
  unfold remL
  conv => rhs; rw [← List.map_id l]
  apply List.map_congr_left
  intro x hx
  have := h x hx
  simp only [id]
  exact Int.emod_eq_of_lt this.1 this.2
end Go.Proofs.YtjecdmlojgmbeaaGreatDoor
