/- Contracts: gcd, l02Gcd, l16Common, CommonPulses. -/
import Derived.Test.YtnbfcdanpplllaaFa
namespace Go.Proofs.Ytnbfcdanpplllaa
open Go.RowKit

def cpN (k m : Nat) : Nat := k / Nat.gcd k m * m
def cpI (k m : Int) : Int := if 1 ≤ k ∧ k ≤ 12 ∧ 1 ≤ m ∧ m ≤ 12 ∧ cpN k.toNat m.toNat ≤ 24 then cpN k.toNat m.toNat else 0
theorem cpN_le {k m : Nat} (hk : k ≤ 1000) (hm : m ≤ 1000) : cpN k m ≤ 1000000 := by
  unfold cpN
  have : k / Nat.gcd k m ≤ k := Nat.div_le_self _ _
  exact Nat.le_trans (Nat.mul_le_mul (Nat.le_trans this hk) hm) (by decide)
theorem cp_wrap {k m : Nat} (hk : k ≤ 1000) (hm : m ≤ 1000) : ∃ q : Nat, IntKind.i64.wrap ((k : Int) / (Nat.gcd k m : Int)) = (q : Int) ∧ IntKind.i64.wrap ((q : Int) * (m : Int)) = (cpN k m : Int) := by
  have h1 := cpN_le hk hm
  have h2 : k / Nat.gcd k m ≤ k := Nat.div_le_self _ _
  refine ⟨k / Nat.gcd k m, ?_, ?_⟩
  · rw [← Int.natCast_ediv]
    generalize k / Nat.gcd k m = q at *
    exact IntWalk.i64_in _ (by omega)
  · have e : ((k / Nat.gcd k m : Nat) : Int) * (m : Int) = (cpN k m : Int) := by
      unfold cpN; rw [Int.natCast_mul]
    rw [e]
    exact IntWalk.i64_in _ (by omega)

theorem gcd_c (a b : Nat) (ha : a < 1000000) (hb : b < 1000000) (w : World) : Calls Try.prog 21 #[.int .i64 a, .int .i64 b] w fun e w' => e = .returned (.int .i64 (Nat.gcd a b)) ∧ Ext w w' := by
  go_enter Try.func21, Try.ntmps21
  go_wp2
  go_loopw [0, 1] (fun x y wr => ∃ c d : Nat, c < 1000000 ∧ d < 1000000 ∧ x = .int .i64 c ∧ y = .int .i64 d ∧ Hid (Nat.gcd c d = Nat.gcd a b) ∧ Ext w wr) (fun _ y _ => (intOf y).toNat)
  case atStart => exact ⟨a, b, ha, hb, rfl, rfl, rfl, Below.refl _ _⟩
  case round =>
    obtain ⟨c, d, hc, hd, rfl, rfl, hg, hx⟩ := hrel
    by_cases h0 : d = 0
    · subst h0
      go_wp2
      go_ret
      exact ⟨by rw [← hg.out]; simp, hx⟩
    · have h1 : ((d : Int) != 0) = true := by rw [bne_iff_ne]; omega
      have h2 : (1 : Int) ≤ d := by omega
      have h3 : Nat.gcd d (c % d) = Nat.gcd a b := by rw [← hg.out, Nat.gcd_comm c d, Nat.gcd_rec d c, Nat.gcd_comm]
      have H3 : Hid (Nat.gcd d (c % d) = Nat.gcd a b) := h3
      have h4 : c % d < d := Nat.mod_lt _ (by omega)
      clear h3 hg
      go_wp2
      go_region
      go_wp2
      go_roundw
      case rel => exact ⟨d, c % d, hd, by omega, rfl, by first | rfl | simp, H3, hx.drew⟩
      case measure => simp [intOf]; omega
theorem lawGcd_c (a b : Nat) (ha : a < 1000000) (hb : b < 1000000) (w : World) : Calls Try.prog 7 #[.int .i64 a, .int .i64 b] w fun e w' => e = .returned (.int .i64 (Nat.gcd a b)) ∧ w = w' := by
  go_enter Try.func7, Try.ntmps7
  go_wp2
  go_loop [0, 1] (fun x y => ∃ c d : Nat, c < 1000000 ∧ d < 1000000 ∧ x = .int .i64 c ∧ y = .int .i64 d ∧ Hid (Nat.gcd c d = Nat.gcd a b)) (fun _ y => (intOf y).toNat)
  case atStart => exact ⟨a, b, ha, hb, rfl, rfl, rfl⟩
  case round =>
    obtain ⟨c, d, hc, hd, rfl, rfl, hg⟩ := hrel
    by_cases h0 : d = 0
    · subst h0
      go_wp2
      go_ret
      exact ⟨by rw [← hg.out]; simp, rfl⟩
    · have h2 : (1 : Int) ≤ d := by omega
      have h3 : Nat.gcd d (c % d) = Nat.gcd a b := by rw [← hg.out, Nat.gcd_comm c d, Nat.gcd_rec d c, Nat.gcd_comm]
      have H3 : Hid (Nat.gcd d (c % d) = Nat.gcd a b) := h3
      have h4 : c % d < d := Nat.mod_lt _ (by omega)
      clear h3 hg
      go_wp2
      go_round
      case rel => exact ⟨d, c % d, hd, by omega, rfl, by first | rfl | simp, H3⟩
      case measure => simp [intOf]; omega
theorem commonPulses_c (k m : Int) (w : World) : Calls Try.prog 5 #[.int .i64 k, .int .i64 m] w (RI (cpI k m) w) := by
  by_cases hk : 1 ≤ k ∧ k ≤ 12
  · by_cases hm : 1 ≤ m ∧ m ≤ 12
    · obtain ⟨k, rfl⟩ := Int.eq_ofNat_of_zero_le (show 0 ≤ k by omega)
      obtain ⟨m, rfl⟩ := Int.eq_ofNat_of_zero_le (show 0 ≤ m by omega)
      obtain ⟨hk1, hk2⟩ := hk
      obtain ⟨hm1, hm2⟩ := hm
      have hg : (1 : Int) ≤ (Nat.gcd k m : Int) := by have := Nat.gcd_pos_of_pos_left m (show 0 < k by omega); omega
      obtain ⟨q, hq, hw⟩ := cp_wrap (k := k) (m := m) (by omega) (by omega)
      by_cases hc : cpN k m ≤ 24
      · have H : Hid (cpI k m = cpN k m) := by unfold Hid cpI; rw [if_pos (by simpa using ⟨by omega, by omega, by omega, by omega, hc⟩)]; simp
        go_enter Try.func5, Try.ntmps5
        go_wp2_with (first | (go_at_call 20; refine (within_t _ ?_).mono ?_; (focus omega); rintro e w1 ⟨rfl, rfl⟩) | (go_at_call 20; refine (within_f _ ?_).mono ?_; (focus omega); rintro e w1 ⟨rfl, rfl⟩) | (go_at_call 21; refine (gcd_c _ _ (by omega) (by omega) _).mono ?_; rintro e w1 ⟨rfl, hx⟩))
        go_ret
        exact ⟨by rw [H.out]; rfl, hx⟩
      · have H : Hid (cpI k m = 0) := by unfold Hid cpI; rw [if_neg (by simpa using fun _ _ _ _ => by omega)]
        have hc' : 24 < cpN k m := by omega
        go_enter Try.func5, Try.ntmps5
        go_wp2_with (first | (go_at_call 20; refine (within_t _ ?_).mono ?_; (focus omega); rintro e w1 ⟨rfl, rfl⟩) | (go_at_call 20; refine (within_f _ ?_).mono ?_; (focus omega); rintro e w1 ⟨rfl, rfl⟩) | (go_at_call 21; refine (gcd_c _ _ (by omega) (by omega) _).mono ?_; rintro e w1 ⟨rfl, hx⟩))
        go_ret
        exact ⟨by rw [H.out]; rfl, hx⟩
    · have H : Hid (cpI k m = 0) := by unfold Hid cpI; rw [if_neg (by intro h; exact hm ⟨h.2.2.1, h.2.2.2.1⟩)]
      obtain ⟨hk1, hk2⟩ := hk
      go_enter Try.func5, Try.ntmps5
      go_wp2_with (first | (go_at_call 20; refine (within_t _ ?_).mono ?_; (focus omega); rintro e w1 ⟨rfl, rfl⟩) | (go_at_call 20; refine (within_f _ ?_).mono ?_; (focus omega); rintro e w1 ⟨rfl, rfl⟩))
      go_ret
      exact ⟨by rw [H.out]; rfl, Below.refl _ _⟩
  · have H : Hid (cpI k m = 0) := by unfold Hid cpI; rw [if_neg (by intro h; exact hk ⟨h.1, h.2.1⟩)]
    go_enter Try.func5, Try.ntmps5
    go_wp2_with (first | (go_at_call 20; refine (within_t _ ?_).mono ?_; (focus omega); rintro e w1 ⟨rfl, rfl⟩) | (go_at_call 20; refine (within_f _ ?_).mono ?_; (focus omega); rintro e w1 ⟨rfl, rfl⟩))
    go_ret
    exact ⟨by rw [H.out]; rfl, Below.refl _ _⟩
end Go.Proofs.Ytnbfcdanpplllaa
