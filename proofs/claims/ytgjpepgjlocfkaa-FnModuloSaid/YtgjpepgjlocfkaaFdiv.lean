/- Contracts: the division modulo 2 on both sides, RestTwo. -/
import Derived.Test.YtgjpepgjlocfkaaFa
import Derived.Test.YtgjpepgjlocfkaaPureD
import Derived.Test.YtgjpepgjlocfkaaShelf
namespace Go.Proofs.Ytgjpepgjlocfkaa
open Go.RowKit
def IsLen (n : Nat) (x : Nat) : Prop := n = Lib.bitLen x
theorem bitsLen_c (a : Nat) (ha : a < 9223372036854775808) (w : World) : Calls Try.prog 22 #[.int .u64 a] w fun e w' => e = .returned (.int .i64 (Lib.bitLen a)) ∧ w = w' :=
  (Try.bits_Len a w (by omega) (by omega)).mono fun _ _ ⟨he, hw⟩ => ⟨by rw [he, Int.toNat_natCast], hw.symm⟩

def DivPost (a b : Nat) (w : World) (e : Ending) (w' : World) : Prop := e = .returned (.tuple #[.int .i64 ((divTwo a b).1 : Nat), .int .i64 ((divTwo a b).2 : Nat)]) ∧ w = w'
def DInv (a0 b q a K : Nat) : Prop := dloop b (Lib.bitLen b) K (q, a) = divTwo a0 b ∧ a < 2 ^ (K + Lib.bitLen b - 1) ∧ K + Lib.bitLen b ≤ 43
set_option maxHeartbeats 1000000 in
theorem dividedTwo_c (a0 b : Nat) (ha0 : a0 < 4398046511104) (hb : b < 4398046511104) (hb0 : 0 < b) (w : World) : Calls Try.prog 18 #[.int .i64 a0, .int .i64 b] w (DivPost a0 b w) := by
  have hb1 := (bl_pos (x := b) (by omega) hb0).1
  have hbl := bl_le (x := b) (n := 42) (by omega) (by omega)
  have hal := bl_le (x := a0) (n := 42) (by omega) (by omega)
  have hinv : Hid (DInv a0 b 0 a0 (Lib.bitLen a0 + 1 - Lib.bitLen b)) := ⟨rfl, divTwo_start (by omega) (by omega) hb0, by omega⟩
  obtain ⟨n, hn⟩ : ∃ n, n = Lib.bitLen b := ⟨_, rfl⟩
  have Hn : Hid (Lib.bitLen b = n) := hn.symm
  rw [← hn] at hb1 hbl
  clear hn
  go_enter Try.func18, Try.ntmps18
  go_wp2_with (first | (go_at_call 22; refine (bitsLen_c _ (by omega) _).mono ?_; rintro e w1 ⟨rfl, rfl⟩; rw [Hn.out]))
  go_loop [0, 6] (fun x q => ∃ a qq K : Nat, a < 4398046511104 ∧ qq < 4398046511104 ∧ x = .int .i64 a ∧ q = .int .i64 qq ∧ Hid (DInv a0 b qq a K)) (fun x _ => (intOf x).toNat)
  case atStart => exact ⟨a0, 0, _, by omega, by omega, rfl, rfl, hinv⟩
  case round =>
    clear hinv
    obtain ⟨a, q, K, ha, hq, rfl, rfl, hI⟩ := hrel
    have hal2 := bl_le (x := a) (n := 42) (by omega) (by omega)
    by_cases hge : n ≤ Lib.bitLen a
    · have ha1 : 0 < a := by
        rcases Nat.eq_zero_or_pos a with h | h
        · subst h; rw [bl_zero] at hge; omega
        · exact h
      have hane : ((a : Int) != 0) = true := by rw [bne_iff_ne]; omega
      obtain ⟨t1, t2, t3⟩ := dloop_top (b := b) (q := q) (a := a) (K := K) (by omega) (by omega) hb0 ha1 (by show Lib.bitLen b ≤ _; rw [Hn.out]; exact hge) hI.out.2.1
      obtain ⟨k, hk⟩ : ∃ k, Lib.bitLen a = k + n := ⟨Lib.bitLen a - n, by show Lib.bitLen a = _; omega⟩
      have hkb : Lib.bitLen a - Lib.bitLen b = k := by show Lib.bitLen a - Lib.bitLen b = k; rw [Hn.out, hk]; omega
      rw [hkb] at t1 t2 t3
      have hI2 : Hid (DInv a0 b (q ||| 2 ^ k) (a ^^^ (b * 2 ^ k)) k) := ⟨by rw [← hI.out.1, t1], t2, by have := hI.out.2.2; omega⟩
      have hk42 : k + n ≤ 42 := by rw [← hk]; exact hal2
      have hlt : a ^^^ (b * 2 ^ k) < a := by
        have h1 := (bl_pos (x := a) (by omega) ha1).2
        have h2 : (2 : Nat) ^ (k + Lib.bitLen b - 1) = 2 ^ (Lib.bitLen a - 1) := by rw [Hn.out, hk]
        omega
      have hbk : b * 2 ^ k < 2 ^ 42 := mul_pow_lt (by omega) (by show k + Lib.bitLen b ≤ 42; rw [Hn.out]; exact hk42)
      have hpk : (2 : Nat) ^ k < 2 ^ 42 := Nat.pow_lt_pow_right (by decide) (by omega)
      have hqk : q ||| 2 ^ k < 2 ^ 42 := Nat.or_lt_two_pow (by omega) (by omega)
      have hakl : a ^^^ (b * 2 ^ k) < 4398046511104 := by omega
      have hshl : IntKind.i64.wrap ((b : Int) * 2 ^ k) = ((b * 2 ^ k : Nat) : Int) := by rw [shl_cast]; exact wrap_nat (by omega)
      have hpow : IntKind.i64.wrap ((2 : Int) ^ k) = ((2 ^ k : Nat) : Int) := by
        rw [show (2 : Int) ^ k = ((2 ^ k : Nat) : Int) by rw [Int.natCast_pow]; rfl]; exact wrap_nat (by omega)
      have Hk := Lib.hid hk
      have hge2 : (n : Int) ≤ ((k + n : Nat) : Int) := by omega
      have hsub : ((k + n : Nat) : Int) - (n : Int) = (k : Int) := by omega
      clear hk hkb t1 t2 t3 hal2 hge hI
      generalize b * 2 ^ k = z at *
      generalize 2 ^ k = p at *
      have hor := i64_or q p (by omega) (by omega)
      have hxor := i64_xor a z (by omega) (by omega)
      generalize q ||| p = q' at *
      generalize a ^^^ z = a' at *
      go_wp2_with (first | (go_at_call 22; refine (bitsLen_c _ (by omega) _).mono ?_; rintro e w1 ⟨rfl, rfl⟩; rw [Hk.out]))
      go_round
      case rel => exact ⟨a', q', k, hakl, by omega, rfl, rfl, hI2⟩
      case measure => simp [intOf]; omega
    · have hd := dloop_end (b := b) (q := q) (a := a) (K := K) (by omega) (by omega) hb0 (by show _ < Lib.bitLen b; rw [Hn.out]; omega)
      have H : Hid (divTwo a0 b = (q, a)) := by unfold Hid; rw [← hI.out.1, hd]
      obtain ⟨m, hm⟩ : ∃ m, Lib.bitLen a = m := ⟨_, rfl⟩
      have hmn : m < n := by rw [← hm]; show Lib.bitLen a < n; omega
      have Hm := Lib.hid hm
      clear hge hm hd hal2
      go_wp2_with (first | (go_at_call 22; refine (bitsLen_c _ (by omega) _).mono ?_; rintro e w1 ⟨rfl, rfl⟩; rw [Hm.out]))
      go_ret2
      exact ⟨by rw [H.out]; rfl, rfl⟩

def restI (a b : Int) : Int := if 0 ≤ a ∧ a ≤ 2199023255551 ∧ 1 ≤ b ∧ b ≤ 1048575 then ((divTwo a.toNat b.toNat).2 : Nat) else -1
theorem restI_in {a b : Nat} (ha : a ≤ 2199023255551) (hb : 1 ≤ b) (hb2 : b ≤ 1048575) : restI a b = ((divTwo a b).2 : Nat) := by unfold restI; rw [if_pos (by omega)]; simp
theorem restI_a {a b : Int} (h : ¬ (0 ≤ a ∧ a ≤ 2199023255551)) : restI a b = -1 := by unfold restI; rw [if_neg (by omega)]
theorem restI_b {a b : Int} (h : ¬ (1 ≤ b ∧ b ≤ 1048575)) : restI a b = -1 := by unfold restI; rw [if_neg (by omega)]
theorem restTwo_c (a b : Int) (w : World) : Calls Try.prog 6 #[.int .i64 a, .int .i64 b] w fun e w' => e = .returned (.int .i64 (restI a b)) ∧ w = w' := by
  by_cases ha : 0 ≤ a ∧ a ≤ 2199023255551
  · by_cases hb : 1 ≤ b ∧ b ≤ 1048575
    · obtain ⟨a, rfl⟩ := Int.eq_ofNat_of_zero_le ha.1
      obtain ⟨b, rfl⟩ := Int.eq_ofNat_of_zero_le (show 0 ≤ b by omega)
      have H := Lib.hid (restI_in (a := a) (b := b) (by omega) (by omega) (by omega))
      go_enter Try.func6, Try.ntmps6
      go_wp2_with (first | (go_at_call 17; refine (within_t _ ?_).mono ?_; (focus omega); rintro e w1 ⟨rfl, rfl⟩) | (go_at_call 17; refine (within_f _ ?_).mono ?_; (focus omega); rintro e w1 ⟨rfl, rfl⟩) | (go_at_call 18; refine (dividedTwo_c _ _ (by omega) (by omega) (by omega) _).mono ?_; rintro e w1 ⟨rfl, rfl⟩))
      go_ret
      exact ⟨by rw [H.out]; rfl, rfl⟩
    · have H := Lib.hid (restI_b (a := a) hb)
      go_enter Try.func6, Try.ntmps6
      go_wp2_with (first | (go_at_call 17; refine (within_t _ ?_).mono ?_; (focus omega); rintro e w1 ⟨rfl, rfl⟩) | (go_at_call 17; refine (within_f _ ?_).mono ?_; (focus omega); rintro e w1 ⟨rfl, rfl⟩))
      go_ret
      exact ⟨by rw [H.out]; rfl, rfl⟩
  · have H := Lib.hid (restI_a (b := b) ha)
    go_enter Try.func6, Try.ntmps6
    go_wp2_with (first | (go_at_call 17; refine (within_t _ ?_).mono ?_; (focus omega); rintro e w1 ⟨rfl, rfl⟩) | (go_at_call 17; refine (within_f _ ?_).mono ?_; (focus omega); rintro e w1 ⟨rfl, rfl⟩))
    go_ret
    exact ⟨by rw [H.out]; rfl, rfl⟩
end Go.Proofs.Ytgjpepgjlocfkaa
