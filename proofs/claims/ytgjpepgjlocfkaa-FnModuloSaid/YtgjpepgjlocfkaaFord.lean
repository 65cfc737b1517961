/- Contracts: OrderTwo on both sides: after how many doublings the rest is one again. -/
import Derived.Test.YtgjpepgjlocfkaaFdiv
import Derived.Test.YtgjpepgjlocfkaaFlin
import Derived.Test.YtgjpepgjlocfkaaPureO
namespace Go.Proofs.Ytgjpepgjlocfkaa
open Go.RowKit
theorem orderTwo_c (l : List Int) (v : Value) (w : World) (hv : Ints w v l) : Calls Try.prog 14 #[v] w fun e w' => e = .returned (.int .i64 (ordI l)) ∧ w = w' := by
  have Hv := Lib.hid hv
  clear hv
  by_cases hp : PatOk l
  · have Hp := Lib.hid hp
    have Hm := Lib.hid (maskI_pat hp)
    have hm := maskN_lt hp
    have hmo := maskN_odd hp
    by_cases h1 : maskN l = 1
    · have H := Lib.hid (ordI_1 hp h1)
      have H1 := Lib.hid h1
      have Hd1 : Hid ((divTwo 1 1).2 = 0) := by unfold Hid; decide
      have Hd2 : Hid ((divTwo 2 1).2 = 0) := by unfold Hid; decide
      clear hp h1 hm hmo
      go_enter Try.func14, Try.ntmps14
      go_wp2_with (first | (go_at_call 20; refine (patternOk_c l _ _ Hv.out).mono ?_; rintro e w1 ⟨b, rfl, hb, rfl⟩; obtain rfl := hb.2 Hp.out; clear hb) | (go_at_call 7; refine (maskOf_c l _ _ Hv.out).mono ?_; rintro e w1 ⟨rfl, rfl⟩; rw [Hm.out, H1.out]) | (go_at_call 18; refine (dividedTwo_c 1 1 (by omega) (by omega) (by omega) _).mono ?_; rintro e w2 ⟨rfl, rfl⟩; rw [Hd1.out]))
      go_loop [6, 7] (fun x y => x = .int .i64 1 ∧ y = .int .i64 1) (fun _ _ => 0)
      case atStart => exact ⟨rfl, rfl⟩
      case round =>
        obtain ⟨rfl, rfl⟩ := hrel
        have hw : IntKind.i64.wrap ((1 : Int) * 2) = 2 := by decide
        go_wp2_with (first | (go_at_call 18; refine (dividedTwo_c 2 1 (by omega) (by omega) (by omega) _).mono ?_; rintro e w2 ⟨rfl, rfl⟩; rw [Hd2.out]))
        go_ret
        exact ⟨by rw [H.out]; rfl, rfl⟩
    · have hm2 : 2 ≤ maskN l := by omega
      have H := Lib.hid (ordI_n hp h1)
      have Hd1 := Lib.hid (div_one hm hm2)
      have Hlf := Lib.hid (fun p => lf_div (p := p) hm hm2)
      have hbl : Hid (1 < 2 ^ (Lib.bitLen (maskN l) - 1)) := by
        unfold Hid
        have h3 : 2 ≤ Lib.bitLen (maskN l) := by
          have := bl_lt (x := maskN l) (by omega)
          rcases Nat.lt_or_ge (Lib.bitLen (maskN l)) 2 with h | h
          · have : 2 ^ Lib.bitLen (maskN l) ≤ 2 ^ 1 := Nat.pow_le_pow_right (by decide) (by omega)
            omega
          · exact h
        exact Nat.lt_of_lt_of_le (show 1 < 2 ^ 1 by decide) (Nat.pow_le_pow_right (by decide) (by omega))
      have hbl2 : Hid (2 ^ (Lib.bitLen (maskN l) - 1) ≤ 4096) := by
        have h3 : Lib.bitLen (maskN l) ≤ 13 := bl_le (by omega) (by omega)
        exact Nat.pow_le_pow_right (n := 2) (by decide) (show Lib.bitLen (maskN l) - 1 ≤ 12 by omega)
      clear hp h1 hmo
      generalize maskN l = m at *
      go_enter Try.func14, Try.ntmps14
      go_wp2_with (first | (go_at_call 20; refine (patternOk_c l _ _ Hv.out).mono ?_; rintro e w1 ⟨b, rfl, hb, rfl⟩; obtain rfl := hb.2 Hp.out; clear hb) | (go_at_call 7; refine (maskOf_c l _ _ Hv.out).mono ?_; rintro e w1 ⟨rfl, rfl⟩; rw [Hm.out]) | (go_at_call 18; refine (dividedTwo_c 1 m (by omega) (by omega) (by omega) _).mono ?_; rintro e w2 ⟨rfl, rfl⟩; rw [Hd1.out]))
      go_loop [6, 7] (fun x y => ∃ n p : Nat, 1 ≤ n ∧ n ≤ 4096 ∧ x = .int .i64 p ∧ y = .int .i64 n ∧ p < 4096 ∧ Hid (p < 2 ^ (Lib.bitLen m - 1) ∧ ordGo m (4096 - n) n p = ordGo m 4095 1 1)) (fun _ y => 4097 - (intOf y).toNat)
      case atStart => exact ⟨1, 1, by omega, by omega, rfl, rfl, by omega, hbl.out, rfl⟩
      case round =>
        obtain ⟨n, p, hn1, hn2, rfl, rfl, hp, hpo⟩ := hrel
        by_cases hn : n ≤ 4095
        · have hlf := Hlf.out p hpo.out.1
          have Hl := Lib.hid hlf
          obtain ⟨f, hf⟩ : ∃ f, 4096 - n = f + 1 := ⟨4095 - n, by omega⟩
          have Hf : Hid (4096 - n = f + 1 ∧ 4096 - (n + 1) = f) := ⟨hf, by omega⟩
          have hw : IntKind.i64.wrap ((p : Int) * 2) = ((2 * p : Nat) : Int) := by rw [show (p : Int) * 2 = ((2 * p : Nat) : Int) by omega]; exact wrap_nat (by omega)
          have hq := Nat.lt_of_lt_of_le hlf.2 hbl2.out
          clear hlf hf
          obtain ⟨q, hqe⟩ : ∃ q, q = lf m p := ⟨_, rfl⟩
          rw [← hqe] at hq
          have Hq := Lib.hid hqe
          by_cases hq1 : q = 1
          · have hbq : ((q : Int) == 1) = true := by simp [hq1]
            have Hn : Hid (ordGo m 4095 1 1 = n) := by
              unfold Hid
              rw [← hpo.out.2, Hf.out.1, ordGo, if_pos (by rw [← hqe]; exact hq1)]
            clear hq1 hqe
            go_wp2_with (first | (go_at_call 18; refine (dividedTwo_c (2 * p) m (by omega) (by omega) (by omega) _).mono ?_; rintro e w2 ⟨rfl, rfl⟩; rw [Hl.out.1, ← Hq.out]))
            go_ret
            exact ⟨by rw [H.out, Hn.out]; rfl, rfl⟩
          · have hbq : ((q : Int) == 1) = false := by rw [beq_eq_false_iff_ne]; omega
            have Hn : Hid (q < 2 ^ (Lib.bitLen m - 1) ∧ ordGo m (4096 - (n + 1)) (n + 1) q = ordGo m 4095 1 1) := by
              refine ⟨by rw [hqe]; exact Hl.out.2, ?_⟩
              rw [← hpo.out.2, Hf.out.1, Hf.out.2, ordGo, if_neg (by rw [← hqe]; exact hq1), ← hqe]
            clear hq1 hqe
            go_wp2_with (first | (go_at_call 18; refine (dividedTwo_c (2 * p) m (by omega) (by omega) (by omega) _).mono ?_; rintro e w2 ⟨rfl, rfl⟩; rw [Hl.out.1, ← Hq.out]))
            go_round
            case rel => exact ⟨n + 1, q, by omega, by omega, by go_num, by go_num, hq, Hn⟩
            case measure => simp [intOf]; omega
        · have Hn : Hid (ordGo m 4095 1 1 = 0) := by unfold Hid; rw [← hpo.out.2, show 4096 - n = 0 by omega]; rfl
          go_wp2
          go_ret
          exact ⟨by rw [H.out, Hn.out]; rfl, rfl⟩
  · have H := Lib.hid (ordI_f hp)
    have Hp := Lib.hid hp
    clear hp
    go_enter Try.func14, Try.ntmps14
    go_wp2_with (first | (go_at_call 20; refine (patternOk_c l _ _ Hv.out).mono ?_; rintro e w1 ⟨b, rfl, hb, rfl⟩; obtain rfl := bool_f hb Hp.out; clear hb))
    go_ret
    exact ⟨by rw [H.out]; rfl, rfl⟩
end Go.Proofs.Ytgjpepgjlocfkaa
