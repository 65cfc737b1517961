/- Contracts: TimesTwo on both sides. -/
import Derived.Test.YtgjpepgjlocfkaaFa
import Derived.Test.YtgjpepgjlocfkaaBits
namespace Go.Proofs.Ytgjpepgjlocfkaa
open Go.RowKit

def ttI (a b : Int) : Int := if 0 ≤ a ∧ a ≤ 1048575 ∧ 0 ≤ b ∧ b ≤ 1048575 then (ts a.toNat b.toNat 20 : Nat) else -1
theorem ttI_in {a b : Nat} (ha : a < 1048576) (hb : b < 1048576) : ttI a b = (ts a b 20 : Nat) := by
  unfold ttI; rw [if_pos (by omega)]; simp
theorem ttI_a {a b : Int} (h : ¬ (0 ≤ a ∧ a ≤ 1048575)) : ttI a b = -1 := by unfold ttI; rw [if_neg (by omega)]
theorem ttI_b {a b : Int} (h : ¬ (0 ≤ b ∧ b ≤ 1048575)) : ttI a b = -1 := by unfold ttI; rw [if_neg (by omega)]

theorem timesTwo_c (a b : Int) (w : World) : Calls Try.prog 5 #[.int .i64 a, .int .i64 b] w fun e w' => e = .returned (.int .i64 (ttI a b)) ∧ w = w' := by
  by_cases ha : 0 ≤ a ∧ a ≤ 1048575
  · by_cases hb : 0 ≤ b ∧ b ≤ 1048575
    · obtain ⟨a, rfl⟩ := Int.eq_ofNat_of_zero_le ha.1
      obtain ⟨b, rfl⟩ := Int.eq_ofNat_of_zero_le hb.1
      have H := Lib.hid (ttI_in (a := a) (b := b) (by omega) (by omega))
      go_enter Try.func5, Try.ntmps5
      go_wp2_with (first | (go_at_call 17; refine (within_t _ ?_).mono ?_; (focus omega); rintro e w1 ⟨rfl, rfl⟩) | (go_at_call 17; refine (within_f _ ?_).mono ?_; (focus omega); rintro e w1 ⟨rfl, rfl⟩))
      go_loop [5, 15] (fun o i => ∃ k q : Nat, k ≤ 20 ∧ q < 1099511627776 ∧ i = .int .i64 k ∧ o = .int .i64 q ∧ Hid (q = ts a b k)) (fun _ y => 20 - (intOf y).toNat)
      case atStart => exact ⟨0, 0, by omega, by omega, rfl, rfl, rfl⟩
      case round =>
        obtain ⟨k, q, hk, hq, rfl, rfl, hts⟩ := hrel
        by_cases hk20 : k < 20
        · have hsr := shr_cast b k
          have hlt : b / 2 ^ k < 1048576 := div_pow_lt (by omega)
          by_cases hodd : b / 2 ^ k % 2 = 1
          · have hbt : (bits .and .i64 ((b : Int) / 2 ^ k) 1 == 1) = true := by rw [hsr]; exact odd_t (by omega) hodd
            have hl1 : a * 2 ^ k < 1099511627776 := by
              have h3 : 2 ^ k ≤ 2 ^ 19 := Nat.pow_le_pow_right (by decide) (by omega)
              have h4 : a * 2 ^ k ≤ 1048575 * 2 ^ 19 := Nat.mul_le_mul (by omega) h3
              omega
            have hshl : IntKind.i64.wrap ((a : Int) * 2 ^ k) = ((a * 2 ^ k : Nat) : Int) := by rw [shl_cast]; exact wrap_nat (by omega)
            have Hq : Hid (q ^^^ (a * 2 ^ k) = ts a b (k + 1)) := by show _ = ts a b k ^^^ _; rw [if_pos hodd, hts.out]
            have hqn : q ^^^ (a * 2 ^ k) < 2 ^ 40 := Nat.xor_lt_two_pow (by omega) (by omega)
            clear hodd hsr hlt
            generalize a * 2 ^ k = z at *
            have hxr := i64_xor q z (by omega) (by omega)
            generalize q ^^^ z = y at *
            go_wp2
            go_round
            case rel => exact ⟨k + 1, y, by omega, by omega, by go_num, rfl, Hq⟩
            case measure => simp [intOf]; omega
          · have hbt : (bits .and .i64 ((b : Int) / 2 ^ k) 1 == 1) = false := by rw [hsr]; exact odd_f (by omega) hodd
            have Hq : Hid (q = ts a b (k + 1)) := by show _ = ts a b k ^^^ _; rw [if_neg hodd, hts.out, Nat.xor_zero]
            clear hodd hsr hlt
            go_wp2
            go_round
            case rel => exact ⟨k + 1, q, by omega, by omega, by go_num, rfl, Hq⟩
            case measure => simp [intOf]; omega
        · have Hk : Hid (k = 20) := by show k = _; omega
          go_wp2
          go_ret
          rw [H.out, ← Hk.out, ← hts.out]
          exact ⟨rfl, rfl⟩
    · have H := Lib.hid (ttI_b (a := a) hb)
      go_enter Try.func5, Try.ntmps5
      go_wp2_with (first | (go_at_call 17; refine (within_t _ ?_).mono ?_; (focus omega); rintro e w1 ⟨rfl, rfl⟩) | (go_at_call 17; refine (within_f _ ?_).mono ?_; (focus omega); rintro e w1 ⟨rfl, rfl⟩))
      go_ret
      exact ⟨by rw [H.out]; rfl, rfl⟩
  · have H := Lib.hid (ttI_a (b := b) ha)
    go_enter Try.func5, Try.ntmps5
    go_wp2_with (first | (go_at_call 17; refine (within_t _ ?_).mono ?_; (focus omega); rintro e w1 ⟨rfl, rfl⟩) | (go_at_call 17; refine (within_f _ ?_).mono ?_; (focus omega); rintro e w1 ⟨rfl, rfl⟩))
    go_ret
    exact ⟨by rw [H.out]; rfl, rfl⟩
end Go.Proofs.Ytgjpepgjlocfkaa
