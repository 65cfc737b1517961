/- Contracts: CanonOk, ExchangeCanon on both sides. -/
import Derived.Test.YtnlbcnlcdbemaaaDoorCan
import Derived.Test.YtnlbcnlcdbemaaaDoorFjoin
import Derived.Test.YtnlbcnlcdbemaaaDoorFmap
namespace Go.Proofs.YtnlbcnlcdbemaaaDoor
open Go.RowKit
def canOk (n m : Int) (l r : List Int) : Prop := sameOk n m l r ∧ l ≠ [] ∧ r ≠ []
instance (n m : Int) (l r : List Int) : Decidable (canOk n m l r) := by unfold canOk; infer_instance
def canB (n m : Int) (l r : List Int) : Bool := decide (canOk n m l r)
theorem canB_t {n m : Int} {l r : List Int} (h : canOk n m l r) : canB n m l r = true := by unfold canB; simpa using h
theorem canB_f {n m : Int} {l r : List Int} (h : ¬ canOk n m l r) : canB n m l r = false := by unfold canB; simpa using h
def xchN (n m : Int) (l r : List Int) : Int := if canOk n m l r then n else 0
def xchI (n m : Int) (l r : List Int) : List Int := if canOk n m l r then rotL n.toNat r 0 else []
def xchO (n m : Int) (l r : List Int) : List Int := if canOk n m l r then rotL n.toNat l 0 else []
theorem xch_t {n : Nat} {m : Int} {l r : List Int} (h : canOk n m l r) : canB n m l r = true ∧ xchN n m l r = n ∧ xchI n m l r = rotL n r 0 ∧ xchO n m l r = rotL n l 0 := by
  unfold xchN xchI xchO; rw [if_pos h, if_pos h, if_pos h]; exact ⟨canB_t h, rfl, by simp, by simp⟩
theorem xch_f {n m : Int} {l r : List Int} (h : ¬ canOk n m l r) : canB n m l r = false ∧ xchN n m l r = 0 ∧ xchI n m l r = [] ∧ xchO n m l r = [] := by
  unfold xchN xchI xchO; rw [if_neg h, if_neg h, if_neg h]; exact ⟨canB_f h, rfl, rfl, rfl⟩
theorem xch_len (n m : Int) (l r : List Int) : (xchI n m l r).length ≤ 1000000 ∧ (xchO n m l r).length ≤ 1000000 := by
  by_cases h : canOk n m l r
  · obtain ⟨nn, rfl, _, h24, _⟩ := h.1.1.nat
    rw [(xch_t h).2.2.1, (xch_t h).2.2.2]
    have h1 := rhL_len nn (remL nn (addL 0 r))
    have h2 := rhL_len nn (remL nn (addL 0 l))
    unfold rotL; omega
  · rw [(xch_f h).2.2.1, (xch_f h).2.2.2]; simp
end Go.Proofs.YtnlbcnlcdbemaaaDoor
