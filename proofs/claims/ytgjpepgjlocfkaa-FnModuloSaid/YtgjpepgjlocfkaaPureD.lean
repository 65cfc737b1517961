/- Plain facts on the division modulo 2 of natural numbers. -/
import Derived.Lib.BitFns
import Derived.Test.YtgjpepgjlocfkaaBits
namespace Go.Proofs.Ytgjpepgjlocfkaa

theorem bl_aux : ∀ (f x : Nat), x < 2 ^ f → x < 2 ^ Lib.bitLenAux f x ∧ (0 < x → 0 < Lib.bitLenAux f x ∧ 2 ^ (Lib.bitLenAux f x - 1) ≤ x) := by
  intro f
  induction f with
  | zero => intro x h; simp at h; subst h; exact ⟨by decide, fun h => absurd h (by decide)⟩
  | succ f ih =>
    intro x h
    rw [Lib.bitLenAux]
    by_cases h0 : x = 0
    · rw [if_pos h0]; subst h0; exact ⟨by decide, fun h => absurd h (by decide)⟩
    · rw [if_neg h0]
      rw [Nat.pow_succ] at h
      obtain ⟨h1, h2⟩ := ih (x / 2) (by omega)
      refine ⟨by rw [Nat.add_comm, Nat.pow_succ]; omega, fun _ => ⟨by omega, ?_⟩⟩
      rw [Nat.add_sub_cancel_left]
      by_cases hx : 0 < x / 2
      · obtain ⟨h3, h4⟩ := h2 hx
        have : 2 ^ Lib.bitLenAux f (x / 2) = 2 ^ (Lib.bitLenAux f (x / 2) - 1) * 2 := by rw [← Nat.pow_succ]; congr 1; omega
        omega
      · have hz : x / 2 = 0 := by omega
        rw [hz]
        have : Lib.bitLenAux f 0 = 0 := by cases f <;> simp [Lib.bitLenAux]
        rw [this]
        simp; omega
theorem bl_lt {x : Nat} (h : x < 2 ^ 64) : x < 2 ^ Lib.bitLen x := (bl_aux 64 x h).1
theorem bl_pos {x : Nat} (h : x < 2 ^ 64) (h0 : 0 < x) : 0 < Lib.bitLen x ∧ 2 ^ (Lib.bitLen x - 1) ≤ x := (bl_aux 64 x h).2 h0
theorem bl_le {x n : Nat} (h : x < 2 ^ 64) (hn : x < 2 ^ n) : Lib.bitLen x ≤ n := by
  rcases Nat.eq_zero_or_pos x with h0 | h0
  · subst h0; exact Nat.zero_le _
  · obtain ⟨h1, h2⟩ := bl_pos h h0
    have h3 : 2 ^ (Lib.bitLen x - 1) < 2 ^ n := by omega
    have := (Nat.pow_lt_pow_iff_right (a := 2) (by decide)).1 h3
    omega
theorem bl_zero : Lib.bitLen 0 = 0 := by decide
theorem bl_half {x : Nat} (h : x < 2 ^ 63) (h0 : 0 < x) : Lib.bitLen x = Lib.bitLen (x / 2) + 1 := by
  obtain ⟨h1, h2⟩ := bl_pos (x := x) (by omega) h0
  have h3 := bl_lt (x := x) (by omega)
  have h4 := bl_lt (x := x / 2) (by omega)
  apply Nat.le_antisymm
  · refine bl_le (by omega) ?_
    rw [Nat.pow_succ]; omega
  · by_cases hx : 0 < x / 2
    · have h5 := bl_le (x := x / 2) (n := Lib.bitLen x - 1) (by omega) (by
        have : 2 ^ Lib.bitLen x = 2 ^ (Lib.bitLen x - 1) * 2 := by rw [← Nat.pow_succ]; congr 1; omega
        omega)
      omega
    · have : x / 2 = 0 := by omega
      rw [this, bl_zero]; omega

/-- one step of the long division: at place k -/
def dstep (b n k : Nat) (s : Nat × Nat) : Nat × Nat := if s.2.testBit (k + n - 1) = true then (s.1 ||| 2 ^ k, s.2 ^^^ (b * 2 ^ k)) else s
/-- the places K - 1, .., 0 -/
def dloop (b n : Nat) : Nat → Nat × Nat → Nat × Nat
  | 0, s => s
  | K + 1, s => dloop b n K (dstep b n K s)
/-- quotient and rest -/
def divTwo (a b : Nat) : Nat × Nat := dloop b (Lib.bitLen b) (Lib.bitLen a + 1 - Lib.bitLen b) (0, a)
theorem dloop_skip {b n : Nat} : ∀ {K j q a : Nat}, j ≤ K → 1 ≤ n → a < 2 ^ (j + n - 1) → dloop b n K (q, a) = dloop b n j (q, a) := by
  intro K
  induction K with
  | zero => intro j q a hj _ _; rw [show j = 0 by omega]
  | succ K ih =>
    intro j q a hj hn ha
    by_cases e : j = K + 1
    · rw [e]
    · have hb : a.testBit (K + n - 1) = false := Nat.testBit_lt_two_pow (Nat.lt_of_lt_of_le ha (Nat.pow_le_pow_right (by decide) (by omega)))
      rw [dloop, dstep, if_neg (by rw [hb]; simp)]
      exact ih (by omega) hn ha
theorem top_bit {x n : Nat} (h1 : 2 ^ n ≤ x) (h2 : x < 2 ^ (n + 1)) : x.testBit n = true := by
  rw [Nat.testBit_eq_decide_div_mod_eq]
  have : x / 2 ^ n = 1 := by
    apply Nat.div_eq_of_lt_le
    · omega
    · rw [Nat.pow_succ] at h2; omega
  rw [this]; rfl
/-- the step at the top bit of a -/
theorem dloop_top {b q a K : Nat} (ha : a < 2 ^ 62) (hb : b < 2 ^ 62) (hb0 : 0 < b) (ha0 : 0 < a) (hge : Lib.bitLen b ≤ Lib.bitLen a) (hK : a < 2 ^ (K + Lib.bitLen b - 1)) :
    dloop b (Lib.bitLen b) K (q, a) = dloop b (Lib.bitLen b) (Lib.bitLen a - Lib.bitLen b) (q ||| 2 ^ (Lib.bitLen a - Lib.bitLen b), a ^^^ (b * 2 ^ (Lib.bitLen a - Lib.bitLen b))) ∧ a ^^^ (b * 2 ^ (Lib.bitLen a - Lib.bitLen b)) < 2 ^ (Lib.bitLen a - Lib.bitLen b + Lib.bitLen b - 1) ∧ Lib.bitLen a - Lib.bitLen b + 1 ≤ K := by
  obtain ⟨a1, a2⟩ := bl_pos (x := a) (by omega) ha0
  obtain ⟨b1, b2⟩ := bl_pos (x := b) (by omega) hb0
  have a3 := bl_lt (x := a) (by omega)
  have b3 := bl_lt (x := b) (by omega)
  have hKl : Lib.bitLen a - Lib.bitLen b + 1 ≤ K := by
    have h3 : 2 ^ (Lib.bitLen a - 1) < 2 ^ (K + Lib.bitLen b - 1) := by omega
    have := (Nat.pow_lt_pow_iff_right (a := 2) (by decide)).1 h3
    omega
  have hab : a.testBit (Lib.bitLen a - 1) = true := top_bit a2 (by rw [show Lib.bitLen a - 1 + 1 = Lib.bitLen a by omega]; exact a3)
  have hbb : b.testBit (Lib.bitLen b - 1) = true := top_bit b2 (by rw [show Lib.bitLen b - 1 + 1 = Lib.bitLen b by omega]; exact b3)
  refine ⟨?_, ?_, hKl⟩
  · rw [dloop_skip (j := Lib.bitLen a - Lib.bitLen b + 1) hKl b1 (by rw [show Lib.bitLen a - Lib.bitLen b + 1 + Lib.bitLen b - 1 = Lib.bitLen a by omega]; exact a3)]
    rw [dloop, dstep, if_pos (by show a.testBit _ = true; rw [show Lib.bitLen a - Lib.bitLen b + Lib.bitLen b - 1 = Lib.bitLen a - 1 by omega]; exact hab)]
  · rw [show Lib.bitLen a - Lib.bitLen b + Lib.bitLen b - 1 = Lib.bitLen a - 1 by omega]
    apply Nat.lt_pow_two_of_testBit
    intro i hi
    rw [Nat.testBit_xor]
    by_cases e : i = Lib.bitLen a - 1
    · rw [e, hab, Nat.testBit_mul_two_pow]
      have : Lib.bitLen a - Lib.bitLen b ≤ Lib.bitLen a - 1 := by omega
      simp only [this, decide_true, Bool.true_and]
      rw [show Lib.bitLen a - 1 - (Lib.bitLen a - Lib.bitLen b) = Lib.bitLen b - 1 by omega, hbb]
      rfl
    · have h1 : a.testBit i = false := Nat.testBit_lt_two_pow (Nat.lt_of_lt_of_le a3 (Nat.pow_le_pow_right (by decide) (by omega)))
      rw [h1, Nat.testBit_mul_two_pow]
      have h2 : b.testBit (i - (Lib.bitLen a - Lib.bitLen b)) = false := Nat.testBit_lt_two_pow (Nat.lt_of_lt_of_le b3 (Nat.pow_le_pow_right (by decide) (by omega)))
      rw [h2]
      simp
/-- nothing is left to divide -/
theorem dloop_end {b q a K : Nat} (ha : a < 2 ^ 62) (hb : b < 2 ^ 62) (hb0 : 0 < b) (h : Lib.bitLen a < Lib.bitLen b) : dloop b (Lib.bitLen b) K (q, a) = (q, a) := by
  have a3 := bl_lt (x := a) (by omega)
  rw [dloop_skip (j := 0) (Nat.zero_le _) (bl_pos (x := b) (by omega) hb0).1 (Nat.lt_of_lt_of_le a3 (Nat.pow_le_pow_right (by decide) (by omega)))]
  rfl
theorem divTwo_start {a b : Nat} (ha : a < 2 ^ 62) (hb : b < 2 ^ 62) (hb0 : 0 < b) : a < 2 ^ (Lib.bitLen a + 1 - Lib.bitLen b + Lib.bitLen b - 1) := by
  have h := bl_lt (x := a) (by omega)
  have h1 := (bl_pos (x := b) (by omega) hb0).1
  exact Nat.lt_of_lt_of_le h (Nat.pow_le_pow_right (by decide) (by omega))
theorem mul_pow_lt {b k n : Nat} (hb : b < 2 ^ 62) (hk : k + Lib.bitLen b ≤ n) : b * 2 ^ k < 2 ^ n := by
  have h := bl_lt (x := b) (by omega)
  have : b * 2 ^ k < 2 ^ Lib.bitLen b * 2 ^ k := Nat.mul_lt_mul_of_pos_right h (Nat.two_pow_pos _)
  rw [← Nat.pow_add] at this
  exact Nat.lt_of_lt_of_le this (Nat.pow_le_pow_right (by decide) (by omega))
end Go.Proofs.Ytgjpepgjlocfkaa
