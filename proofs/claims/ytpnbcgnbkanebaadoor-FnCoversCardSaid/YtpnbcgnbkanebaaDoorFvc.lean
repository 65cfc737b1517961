/- Contracts: l14Count: how many covers there are. -/
import Derived.Test.YtpnbcgnbkanebaaDoorFa
import Derived.Test.YtpnbcgnbkanebaaDoorPureV
namespace Go.Proofs.YtpnbcgnbkanebaaDoor
open Go.RowKit
/-- an element of mask X: it is taken already, or too long, or goes on with c -/
theorem cside (s X d c : Nat) : ∃ n1, n1 = (if s &&& X = 0 ∧ X / 2 ^ d = 0 then c else 0) ∧ ((n1 = 0 ∧ (((s &&& X : Nat) : Int) == 0) = false) ∨ (n1 = 0 ∧ (((s &&& X : Nat) : Int) == 0) = true ∧ (((X / 2 ^ d : Nat) : Int) == 0) = false) ∨
    (n1 = c ∧ (((s &&& X : Nat) : Int) == 0) = true ∧ (((X / 2 ^ d : Nat) : Int) == 0) = true ∧ s &&& X = 0 ∧ X / 2 ^ d = 0)) := by
  refine ⟨_, rfl, ?_⟩
  by_cases h1 : s &&& X = 0
  · by_cases h2 : X / 2 ^ d = 0
    · rw [if_pos ⟨h1, h2⟩]; exact .inr (.inr ⟨rfl, by rw [h1]; rfl, by rw [h2]; rfl, h1, h2⟩)
    · rw [if_neg (fun h => h2 h.2)]
      exact .inr (.inl ⟨rfl, by rw [h1]; rfl, by rw [beq_eq_false_iff_ne]; omega⟩)
  · rw [if_neg (fun h => h1 h.1)]
    exact .inl ⟨rfl, by rw [beq_eq_false_iff_ne]; omega⟩
theorem cside2 (A s X d c : Nat) : ∃ n1, n1 = (if X ≠ A ∧ s &&& X = 0 ∧ X / 2 ^ d = 0 then c else 0) ∧ ((n1 = 0 ∧ ((X : Int) != (A : Int)) = false) ∨ (n1 = 0 ∧ ((X : Int) != (A : Int)) = true ∧ (((s &&& X : Nat) : Int) == 0) = false) ∨ (n1 = 0 ∧ ((X : Int) != (A : Int)) = true ∧ (((s &&& X : Nat) : Int) == 0) = true ∧ (((X / 2 ^ d : Nat) : Int) == 0) = false) ∨
    (n1 = c ∧ ((X : Int) != (A : Int)) = true ∧ (((s &&& X : Nat) : Int) == 0) = true ∧ (((X / 2 ^ d : Nat) : Int) == 0) = true ∧ s &&& X = 0 ∧ X / 2 ^ d = 0)) := by
  by_cases h : X = A
  · refine ⟨_, rfl, .inl ⟨by rw [if_neg (fun h' => h'.1 h)], by rw [h]; simp⟩⟩
  · have hb : ((X : Int) != (A : Int)) = true := by rw [bne_iff_ne]; omega
    obtain ⟨n1, e, h2⟩ := cside s X d c
    refine ⟨n1, ?_, ?_⟩
    · rw [e]; simp [h]
    · rcases h2 with ⟨h3, h4⟩ | ⟨h3, h4, h5⟩ | ⟨h3, h4, h5, h6, h7⟩
      · exact .inr (.inl ⟨h3, hb, h4⟩)
      · exact .inr (.inr (.inl ⟨h3, hb, h4, h5⟩))
      · exact .inr (.inr (.inr ⟨h3, hb, h4, h5, h6, h7⟩))
end Go.Proofs.YtpnbcgnbkanebaaDoor
