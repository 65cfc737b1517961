/- Contracts: PolyRhythm on both sides. -/
import Derived.Test.YtjecdmlojgmbeaaGreatDoorFjoin
import Derived.Test.YtjecdmlojgmbeaaGreatDoorFgcd
namespace Go.Proofs.YtjecdmlojgmbeaaGreatDoor
open Go.RowKit
theorem cpN_mod {k m : Nat} (hk : 1 ≤ k) (hm : 1 ≤ m) : cpN k m % k = 0 ∧ cpN k m % m = 0 ∧ 1 ≤ cpN k m := by
  obtain ⟨a, ha⟩ := Nat.gcd_dvd_left k m
  obtain ⟨b, hb⟩ := Nat.gcd_dvd_right k m
  have hg : 1 ≤ Nat.gcd k m := Nat.gcd_pos_of_pos_left m (by omega)
  have hd : k / Nat.gcd k m = a := by
    generalize Nat.gcd k m = g at *
    rw [ha]; exact Nat.mul_div_cancel_left _ (by omega)
  unfold cpN
  rw [hd]
  refine ⟨?_, Nat.mul_mod_left _ _, ?_⟩
  · generalize Nat.gcd k m = g at *
    have e : a * m = k * b := by rw [ha, hb]; rw [← Nat.mul_assoc, Nat.mul_comm a g]
    rw [e]; exact Nat.mul_mod_right _ _
  · have ha1 : 1 ≤ a := by
      rcases Nat.eq_zero_or_pos a with h | h
      · rw [h, Nat.mul_zero] at ha; omega
      · exact h
    have := Nat.mul_le_mul ha1 hm
    omega
theorem cpI_pos {k m : Int} (h : ¬ cpI k m = 0) : ∃ a b n : Nat, k = a ∧ m = b ∧ cpI k m = n ∧ 1 ≤ a ∧ a ≤ 12 ∧ 1 ≤ b ∧ b ≤ 12 ∧ 1 ≤ n ∧ n ≤ 24 ∧ n % a = 0 ∧ n % b = 0 ∧ n = cpN a b := by
  unfold cpI at *
  by_cases hc : 1 ≤ k ∧ k ≤ 12 ∧ 1 ≤ m ∧ m ≤ 12 ∧ cpN k.toNat m.toNat ≤ 24
  · rw [if_pos hc]
    obtain ⟨h1, h2, h3⟩ := cpN_mod (k := k.toNat) (m := m.toNat) (by omega) (by omega)
    exact ⟨k.toNat, m.toNat, cpN k.toNat m.toNat, by omega, by omega, rfl, by omega, by omega, by omega, by omega, h3, by omega, h1, h2, rfl⟩
  · rw [if_neg hc] at h
    exact absurd rfl h
theorem cpI_nonneg (k m : Int) : 0 ≤ cpI k m ∧ cpI k m ≤ 24 := by
  unfold cpI
  split <;> omega
def polB (k m : Int) : Bool := decide (¬ cpI k m = 0)
def polL (k m : Int) : List Int := if cpI k m = 0 then [] else rhL (cpI k m).toNat (layN k.toNat (cpI k m).toNat k.toNat ++ layN m.toNat (cpI k m).toNat m.toNat)
theorem pol_f {k m : Int} (h : cpI k m = 0) : polB k m = false ∧ polL k m = [] := by
  unfold polB polL
  rw [if_pos h]
  exact ⟨by simp [h], rfl⟩
theorem pol_t {a b n : Nat} (h : cpI a b = (n : Int)) (hn : 1 ≤ n) : polB a b = true ∧ polL a b = rhL n (layN a n a ++ layN b n b) := by
  unfold polB polL
  rw [h, if_neg (by omega)]
  exact ⟨by simp; omega, by simp⟩
theorem polL_len (k m : Int) : (polL k m).length ≤ 1000000 := by
  unfold polL
  split
  · exact Nat.zero_le _
  · have := rhL_len (cpI k m).toNat (layN k.toNat (cpI k m).toNat k.toNat ++ layN m.toNat (cpI k m).toNat m.toNat)
    have := cpI_nonneg k m
    omega
theorem lay_ok {a n : Nat} (ha : 1 ≤ a) (hn : 1 ≤ n) (hn2 : n ≤ 24) (hd : n % a = 0) : RhyOk n (layN a n a) := by
  rw [layN_eq']
  exact ⟨by omega, layL_inc ha hn hd, fun x hx => layL_mem ha hx hn⟩
theorem lay_same {a b n : Nat} (ha : 1 ≤ a) (hb : 1 ≤ b) (hn : 1 ≤ n) (hn2 : n ≤ 24) (hd : n % a = 0) (hd2 : n % b = 0) :
    joinB n n (layN a n a) (layN b n b) = true ∧ joinN n n (layN a n a) (layN b n b) = n ∧ joinL n n (layN a n a) (layN b n b) = rhL n (layN a n a ++ layN b n b) :=
  join_t ⟨lay_ok ha hn hn2 hd, lay_ok hb hn hn2 hd2, rfl⟩
end Go.Proofs.YtjecdmlojgmbeaaGreatDoor
