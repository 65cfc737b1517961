/- Contracts: MaskOf and ListOf on both sides. -/
import Derived.Test.YtgjpepgjlocfkaaFa
import Derived.Test.YtgjpepgjlocfkaaBits
namespace Go.Proofs.Ytgjpepgjlocfkaa
open Go.RowKit

theorem maskGo_step {m : Nat} {x : Int} {t : List Int} (h : 0 ≤ x ∧ x ≤ 40) (hb : ¬ m / 2 ^ x.toNat % 2 = 1) : maskGo m (x :: t) = maskGo (m ||| 2 ^ x.toNat) t := by
  rw [maskGo, if_pos ⟨h.1, h.2, hb⟩]
theorem maskGo_out {m : Nat} {x : Int} {t : List Int} (h : ¬ (0 ≤ x ∧ x ≤ 40)) : maskGo m (x :: t) = none := by
  rw [maskGo, if_neg (fun h' => h ⟨h'.1, h'.2.1⟩)]
theorem maskGo_twice {m : Nat} {x : Int} {t : List Int} (hb : m / 2 ^ x.toNat % 2 = 1) : maskGo m (x :: t) = none := by
  rw [maskGo, if_neg (fun h' => h'.2.2 hb)]
theorem drop_cons {l : List Int} {k : Nat} {x : Int} (hx : l[k]? = some x) : l.drop k = x :: l.drop (k + 1) := by
  obtain ⟨hk, e⟩ := List.getElem?_eq_some_iff.1 hx
  rw [List.drop_eq_getElem_cons hk, e]

theorem maskOf_c (l : List Int) (v : Value) (w : World) (hv : Ints w v l) : Calls Try.prog 7 #[v] w fun e w' => e = .returned (.int .i64 (maskI l)) ∧ w = w' := by
  have hlen := hv.len
  obtain ⟨A, c, rfl, hlc, hcm, hcell⟩ := hv
  have Hcell := Lib.hid hcell
  clear hcell
  go_enter Try.func7, Try.ntmps7
  go_wp2
  go_loop [3, 8] (fun o i => ∃ k m : Nat, k ≤ l.length ∧ m < 2199023255552 ∧ i = .int .i64 k ∧ o = .int .i64 m ∧ Hid (maskGo 0 l = maskGo m (l.drop k))) (fun _ i => l.length - (intOf i).toNat)
  case atStart => exact ⟨0, 0, by omega, by omega, rfl, rfl, rfl⟩
  case round =>
    obtain ⟨k, m, hk, hm, rfl, rfl, hgo⟩ := hrel
    rcases hx : l[k]? with _ | x
    · have h1 : l.length ≤ k := by have := List.getElem?_eq_none_iff.1 hx; omega
      have H : Hid (maskI l = m) := maskI_some (by rw [hgo.out, List.drop_of_length_le h1]; rfl)
      clear hx
      go_wp2
      go_ret
      exact ⟨by rw [H.out]; rfl, rfl⟩
    · obtain ⟨hxr, ad, hA, hc⟩ := Hcell.out k x hx
      have hkl : k < l.length := (List.getElem?_eq_some_iff.1 hx).1
      subst hA
      have hgo2 : maskGo 0 l = maskGo m (x :: l.drop (k + 1)) := by rw [hgo.out, drop_cons hx]
      clear hx hgo
      by_cases h40 : 0 ≤ x ∧ x ≤ 40
      · obtain ⟨n, rfl⟩ := Int.eq_ofNat_of_zero_le h40.1
        have hsr := shr_cast m n
        have hlt : m / 2 ^ n < 2199023255552 := div_pow_lt hm
        have hpow : (2 : Int) ^ n = ((2 ^ n : Nat) : Int) := by rw [Int.natCast_pow]; rfl
        have hpl : 2 ^ n < 2199023255552 := Nat.pow_lt_pow_right (a := 2) (by decide) (show n < 41 by omega)
        by_cases hbit : m / 2 ^ n % 2 = 1
        · have hbt : (bits .and .i64 ((m : Int) / 2 ^ n) 1 == 1) = true := by rw [hsr]; exact odd_t (by omega) hbit
          have H : Hid (maskI l = -1) := maskI_none (by rw [hgo2, maskGo_twice (by simpa using hbit)])
          clear hbit hgo2 hsr hlt hpow hpl
          go_wp2_with (first | (go_at_call 17; refine (within_t _ ?_).mono ?_; (focus omega); rintro e w1 ⟨rfl, rfl⟩) | (go_at_call 17; refine (within_f _ ?_).mono ?_; (focus omega); rintro e w1 ⟨rfl, rfl⟩))
          go_ret
          exact ⟨by rw [H.out]; rfl, rfl⟩
        · have hbt : (bits .and .i64 ((m : Int) / 2 ^ n) 1 == 1) = false := by rw [hsr]; exact odd_f (by omega) hbit
          have hnew : m ||| 2 ^ n < 2199023255552 := or_pow_lt (n := 41) hm (by omega)
          have hor := i64_or m (2 ^ n) (by omega) (by omega)
          have hw : IntKind.i64.wrap ((2 : Int) ^ n) = ((2 ^ n : Nat) : Int) := by rw [hpow]; exact wrap_nat (by omega)
          have Hn : Hid (maskGo 0 l = maskGo (m ||| 2 ^ n) (l.drop (k + 1))) := by show maskGo 0 l = _; rw [hgo2, maskGo_step h40 (by simpa using hbit)]; simp
          clear hbit hgo2 hsr hlt hpow
          generalize m ||| 2 ^ n = m' at *
          generalize 2 ^ n = z at *
          go_wp2_with (first | (go_at_call 17; refine (within_t _ ?_).mono ?_; (focus omega); rintro e w1 ⟨rfl, rfl⟩) | (go_at_call 17; refine (within_f _ ?_).mono ?_; (focus omega); rintro e w1 ⟨rfl, rfl⟩))
          go_round
          case rel => exact ⟨k + 1, m', by omega, hnew, by go_num, rfl, Hn⟩
          case measure => simp [intOf]; omega
      · have H : Hid (maskI l = -1) := maskI_none (by rw [hgo2, maskGo_out h40])
        clear hgo2
        go_wp2_with (first | (go_at_call 17; refine (within_t _ ?_).mono ?_; (focus omega); rintro e w1 ⟨rfl, rfl⟩) | (go_at_call 17; refine (within_f _ ?_).mono ?_; (focus omega); rintro e w1 ⟨rfl, rfl⟩))
        go_ret
        exact ⟨by rw [H.out]; rfl, rfl⟩

theorem listOf_c (m : Int) (w : World) : Calls Try.prog 8 #[.int .i64 m] w (RL (listI m) w) := by
  by_cases hm : 0 ≤ m ∧ m ≤ 2199023255551
  · obtain ⟨m, rfl⟩ := Int.eq_ofNat_of_zero_le hm.1
    have H := Lib.hid (listI_in (m := m) (by omega))
    go_enter Try.func8, Try.ntmps8
    go_wp2_with (first | (go_at_call 17; refine (within_t _ ?_).mono ?_; (focus omega); rintro e w1 ⟨rfl, rfl⟩) | (go_at_call 17; refine (within_f _ ?_).mono ?_; (focus omega); rintro e w1 ⟨rfl, rfl⟩))
    go_loopw [3, 8] (fun o i wr => ∃ k : Nat, k ≤ 41 ∧ i = .int .i64 k ∧ Hid (Own wr w.heap.size o (loB m k)) ∧ Ext w wr) (fun _ i _ => 41 - (intOf i).toNat)
    case atStart => exact ⟨0, by omega, rfl, Own.nil _ _, Below.refl _ _⟩
    case round =>
      obtain ⟨k, hk, rfl, hown, hx⟩ := hrel
      by_cases hk41 : k < 41
      · have hsr := shr_cast m k
        have hlt : m / 2 ^ k < 2199023255552 := div_pow_lt (by omega)
        by_cases hbit : m / 2 ^ k % 2 = 1
        · have hbt : (bits .and .i64 ((m : Int) / 2 ^ k) 1 == 1) = true := by rw [hsr]; exact odd_t (by omega) hbit
          have Hn : Hid (loB m (k + 1) = loB m k ++ [(k : Int)]) := by unfold Hid; rw [loB, if_pos hbit]
          have hll := loB_len m k
          clear hbit hsr hlt
          go_wp2_with (first | (at_builtin; refine wp_append1 rfl (.tmp 16) (.tmp 18) rfl rfl rfl hown.out (by unfold I64; omega) (by omega) hx.size ?_; intro v' w' ho hg hb hat))
          go_roundw
          case rel => exact ⟨k + 1, by omega, by go_num, by unfold Hid; rw [Hn.out]; exact ho, hx.trans hb⟩
          case measure => simp [intOf]; omega
        · have hbt : (bits .and .i64 ((m : Int) / 2 ^ k) 1 == 1) = false := by rw [hsr]; exact odd_f (by omega) hbit
          have Hn : Hid (loB m (k + 1) = loB m k) := by unfold Hid; rw [loB, if_neg hbit, List.append_nil]
          clear hbit hsr hlt
          go_wp2
          go_roundw
          case rel => exact ⟨k + 1, by omega, by go_num, by unfold Hid; rw [Hn.out]; exact hown, hx⟩
          case measure => simp [intOf]; omega
      · have Hk : Hid (k = 41) := by show k = _; omega
        go_wp2
        go_ret
        have := hown.out
        rw [Hk.out] at this
        exact ⟨_, rfl, by rw [H.out]; exact this, hx⟩
  · have H := Lib.hid (listI_out hm)
    go_enter Try.func8, Try.ntmps8
    go_wp2_with (first | (go_at_call 17; refine (within_t _ ?_).mono ?_; (focus omega); rintro e w1 ⟨rfl, rfl⟩) | (go_at_call 17; refine (within_f _ ?_).mono ?_; (focus omega); rintro e w1 ⟨rfl, rfl⟩))
    go_ret
    exact ⟨_, rfl, by rw [H.out]; exact Own.nil _ _, Below.refl _ _⟩
end Go.Proofs.Ytgjpepgjlocfkaa
