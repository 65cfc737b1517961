/- Contracts: TimesTwo on both sides. -/
import Derived.Test.YtiiikagpfgeabaaFa
import Derived.Test.YtiiikagpfgeabaaBits
namespace Go.Proofs.Ytiiikagpfgeabaa
open Go.RowKit

def ttI (a b : Int) : Int := if 0 ≤ a ∧ a ≤ 1048575 ∧ 0 ≤ b ∧ b ≤ 1048575 then (ts a.toNat b.toNat 20 : Nat) else -1
theorem ttI_in {a b : Nat} (ha : a < 1048576) (hb : b < 1048576) : ttI a b = (ts a b 20 : Nat) := by
  unfold ttI; rw [if_pos (by omega)]; simp
theorem ttI_a {a b : Int} (h : ¬ (0 ≤ a ∧ a ≤ 1048575)) : ttI a b = -1 := by unfold ttI; rw [if_neg (by omega)]
theorem ttI_b {a b : Int} (h : ¬ (0 ≤ b ∧ b ≤ 1048575)) : ttI a b = -1 := by unfold ttI; rw [if_neg (by omega)]

theorem l15Times_c (a b : Nat) (ha : a < 1048576) (hb : b < 1048576) (w : World) : Calls Try.prog 41 #[.int .i64 a, .int .i64 b] w fun e w' => e = .returned (.int .i64 (ts a b 20)) ∧ w = w' := by
  go_enter Try.func41, Try.ntmps41
  go_wp2
  go_loop [0, 1, 5] (fun x y o => ∃ i c d q : Nat, c < 2199023255552 ∧ d < 1048576 ∧ q < 1099511627776 ∧ x = .int .i64 c ∧ y = .int .i64 d ∧ o = .int .i64 q ∧ Hid (i ≤ 20 ∧ c = a * 2 ^ i ∧ d = b / 2 ^ i ∧ q = ts a b i)) (fun _ y _ => (intOf y).toNat)
  case atStart => exact ⟨0, a, b, 0, by omega, by omega, by omega, rfl, rfl, rfl, by omega, by simp, by simp, rfl⟩
  case round =>
    obtain ⟨i, c, d, q, hc, hd, hq, rfl, rfl, rfl, hi⟩ := hrel
    by_cases h0 : 0 < d
    · have hi20 : i < 20 := by
        obtain ⟨_, _, h3, _⟩ := hi.out
        rcases Nat.lt_or_ge i 20 with h | h
        · exact h
        · have : b / 2 ^ i = 0 := Nat.div_eq_of_lt (Nat.lt_of_lt_of_le hb (by have := Nat.pow_le_pow_right (show 0 < 2 by decide) h; omega))
          omega
      have hcc : c < 549755813888 := by
        obtain ⟨_, h2, _, _⟩ := hi.out
        have h3 : 2 ^ i ≤ 2 ^ 19 := Nat.pow_le_pow_right (by decide) (by omega)
        have h4 : a * 2 ^ i ≤ 1048575 * 2 ^ 19 := Nat.mul_le_mul (by omega) h3
        rw [h2]
        omega
      have hd2 : d / 2 < d := by omega
      have hnext : Hid (i + 1 ≤ 20 ∧ c * 2 = a * 2 ^ (i + 1) ∧ d / 2 = b / 2 ^ (i + 1)) := by
        obtain ⟨_, h2, h3, _⟩ := hi.out
        exact ⟨by omega, by rw [h2, Nat.pow_succ, Nat.mul_assoc], by rw [h3, Nat.pow_succ, Nat.div_div_eq_div_mul]⟩
      by_cases hodd : d % 2 = 1
      · have hbt := odd_t (a := d) (by omega) hodd
        have hxr := i64_xor q c (by omega) (by omega)
        have hqn : q ^^^ c < 2 ^ 40 := Nat.xor_lt_two_pow (by omega) (by omega)
        have Hq : Hid (q ^^^ c = ts a b (i + 1)) := by
          obtain ⟨_, h2, h3, h4⟩ := hi.out
          show _ = ts a b i ^^^ _
          rw [← h3, if_pos hodd, ← h2, h4]
        clear hodd
        generalize q ^^^ c = z at *
        go_wp2
        go_round
        case rel => exact ⟨i + 1, c * 2, d / 2, z, by omega, by omega, by omega, by go_num, by go_num, rfl, hnext.out.1, hnext.out.2.1, hnext.out.2.2, Hq.out⟩
        case measure => simp [intOf]; omega
      · have hbt := odd_f (a := d) (by omega) hodd
        have Hq : Hid (q = ts a b (i + 1)) := by
          obtain ⟨_, h2, h3, h4⟩ := hi.out
          show _ = ts a b i ^^^ _
          rw [← h3, if_neg hodd, Nat.xor_zero, h4]
        clear hodd
        go_wp2
        go_round
        case rel => exact ⟨i + 1, c * 2, d / 2, q, by omega, by omega, by omega, by go_num, by go_num, rfl, hnext.out.1, hnext.out.2.1, hnext.out.2.2, Hq.out⟩
        case measure => simp [intOf]; omega
    · have Hq : Hid (q = ts a b 20) := by
        obtain ⟨h1, _, h3, h4⟩ := hi.out
        have := ts_stop (a := a) (b := b) (i := i) (by omega) (20 - i)
        rw [show i + (20 - i) = 20 by omega] at this
        show q = _
        rw [h4, this]
      go_wp2
      go_ret
      rw [← Hq.out]
      exact ⟨rfl, rfl⟩
theorem specTimesTwo_c (a b : Int) (w : World) : Calls Try.prog 14 #[.int .i64 a, .int .i64 b] w fun e w' => e = .returned (.int .i64 (ttI a b)) ∧ w = w' := by
  by_cases ha : 0 ≤ a ∧ a ≤ 1048575
  · by_cases hb : 0 ≤ b ∧ b ≤ 1048575
    · obtain ⟨a, rfl⟩ := Int.eq_ofNat_of_zero_le ha.1
      obtain ⟨b, rfl⟩ := Int.eq_ofNat_of_zero_le hb.1
      have H := Lib.hid (ttI_in (a := a) (b := b) (by omega) (by omega))
      go_enter Try.func14, Try.ntmps14
      go_wp2_with (first | (go_at_call 40; refine (l01In_t _ ?_).mono ?_; (focus omega); rintro e w1 ⟨rfl, rfl⟩) | (go_at_call 40; refine (l01In_f _ ?_).mono ?_; (focus omega); rintro e w1 ⟨rfl, rfl⟩) | (go_at_call 41; refine (l15Times_c _ _ (by omega) (by omega) _).mono ?_; rintro e w1 ⟨rfl, rfl⟩))
      go_ret
      exact ⟨by rw [H.out]; rfl, rfl⟩
    · have H := Lib.hid (ttI_b (a := a) hb)
      go_enter Try.func14, Try.ntmps14
      go_wp2_with (first | (go_at_call 40; refine (l01In_t _ ?_).mono ?_; (focus omega); rintro e w1 ⟨rfl, rfl⟩) | (go_at_call 40; refine (l01In_f _ ?_).mono ?_; (focus omega); rintro e w1 ⟨rfl, rfl⟩))
      go_ret
      exact ⟨by rw [H.out]; rfl, rfl⟩
  · have H := Lib.hid (ttI_a (b := b) ha)
    go_enter Try.func14, Try.ntmps14
    go_wp2_with (first | (go_at_call 40; refine (l01In_t _ ?_).mono ?_; (focus omega); rintro e w1 ⟨rfl, rfl⟩) | (go_at_call 40; refine (l01In_f _ ?_).mono ?_; (focus omega); rintro e w1 ⟨rfl, rfl⟩))
    go_ret
    exact ⟨by rw [H.out]; rfl, rfl⟩
theorem timesTwo_c (a b : Int) (w : World) : Calls Try.prog 15 #[.int .i64 a, .int .i64 b] w fun e w' => e = .returned (.int .i64 (ttI a b)) ∧ w = w' := by
  by_cases ha : 0 ≤ a ∧ a ≤ 1048575
  · by_cases hb : 0 ≤ b ∧ b ≤ 1048575
    · obtain ⟨a, rfl⟩ := Int.eq_ofNat_of_zero_le ha.1
      obtain ⟨b, rfl⟩ := Int.eq_ofNat_of_zero_le hb.1
      have H := Lib.hid (ttI_in (a := a) (b := b) (by omega) (by omega))
      go_enter Try.func15, Try.ntmps15
      go_wp2_with (first | (go_at_call 42; refine (within_t _ ?_).mono ?_; (focus omega); rintro e w1 ⟨rfl, rfl⟩) | (go_at_call 42; refine (within_f _ ?_).mono ?_; (focus omega); rintro e w1 ⟨rfl, rfl⟩))
      go_loop [5, 15] (fun o i => ∃ k q : Nat, k ≤ 20 ∧ q < 1099511627776 ∧ i = .int .i64 k ∧ o = .int .i64 q ∧ Hid (q = ts a b k)) (fun _ y => 20 - (intOf y).toNat)
      case atStart => exact ⟨0, 0, by omega, by omega, rfl, rfl, rfl⟩
      case round =>
        obtain ⟨k, q, hk, hq, rfl, rfl, hts⟩ := hrel
        by_cases hk20 : k < 20
        · have hsr := shr_cast b k
          have hlt : b / 2 ^ k < 1048576 := div_pow_lt (by omega)
          by_cases hodd : b / 2 ^ k % 2 = 1
          · have hbt : (bits .and .i64 ((b : Int) / 2 ^ k) 1 == 1) = true := by rw [hsr]; exact odd_t (by omega) hodd
            have hl1 : a * 2 ^ k < 1099511627776 := by
              have h3 : 2 ^ k ≤ 2 ^ 19 := Nat.pow_le_pow_right (by decide) (by omega)
              have h4 : a * 2 ^ k ≤ 1048575 * 2 ^ 19 := Nat.mul_le_mul (by omega) h3
              omega
            have hshl : IntKind.i64.wrap ((a : Int) * 2 ^ k) = ((a * 2 ^ k : Nat) : Int) := by rw [shl_cast]; exact wrap_nat (by omega)
            have Hq : Hid (q ^^^ (a * 2 ^ k) = ts a b (k + 1)) := by show _ = ts a b k ^^^ _; rw [if_pos hodd, hts.out]
            have hqn : q ^^^ (a * 2 ^ k) < 2 ^ 40 := Nat.xor_lt_two_pow (by omega) (by omega)
            clear hodd hsr hlt
            generalize a * 2 ^ k = z at *
            have hxr := i64_xor q z (by omega) (by omega)
            generalize q ^^^ z = y at *
            go_wp2
            go_round
            case rel => exact ⟨k + 1, y, by omega, by omega, by go_num, rfl, Hq⟩
            case measure => simp [intOf]; omega
          · have hbt : (bits .and .i64 ((b : Int) / 2 ^ k) 1 == 1) = false := by rw [hsr]; exact odd_f (by omega) hodd
            have Hq : Hid (q = ts a b (k + 1)) := by show _ = ts a b k ^^^ _; rw [if_neg hodd, hts.out, Nat.xor_zero]
            clear hodd hsr hlt
            go_wp2
            go_round
            case rel => exact ⟨k + 1, q, by omega, by omega, by go_num, rfl, Hq⟩
            case measure => simp [intOf]; omega
        · have Hk : Hid (k = 20) := by show k = _; omega
          go_wp2
          go_ret
          rw [H.out, ← Hk.out, ← hts.out]
          exact ⟨rfl, rfl⟩
    · have H := Lib.hid (ttI_b (a := a) hb)
      go_enter Try.func15, Try.ntmps15
      go_wp2_with (first | (go_at_call 42; refine (within_t _ ?_).mono ?_; (focus omega); rintro e w1 ⟨rfl, rfl⟩) | (go_at_call 42; refine (within_f _ ?_).mono ?_; (focus omega); rintro e w1 ⟨rfl, rfl⟩))
      go_ret
      exact ⟨by rw [H.out]; rfl, rfl⟩
  · have H := Lib.hid (ttI_a (b := b) ha)
    go_enter Try.func15, Try.ntmps15
    go_wp2_with (first | (go_at_call 42; refine (within_t _ ?_).mono ?_; (focus omega); rintro e w1 ⟨rfl, rfl⟩) | (go_at_call 42; refine (within_f _ ?_).mono ?_; (focus omega); rintro e w1 ⟨rfl, rfl⟩))
    go_ret
    exact ⟨by rw [H.out]; rfl, rfl⟩
end Go.Proofs.Ytiiikagpfgeabaa
