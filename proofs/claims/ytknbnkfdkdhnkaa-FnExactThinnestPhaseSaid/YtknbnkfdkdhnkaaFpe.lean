/- Contracts: slices.Min, slices.Max, slices.Index at []int in this seat's words; ThinnestPhase and ThickestPhase on both sides. -/
import Derived.Test.YtknbnkfdkdhnkaaFpd
namespace Go.Proofs.Ytknbnkfdkdhnkaa
open Go.RowKit
theorem slMin_c (l : List Int) (v : Value) (w : World) (hv : Ints w v l) (hl : 1 ≤ l.length) : Calls Try.prog 80 #[v] w fun e w' => e = .returned (.int .i64 (Lib.minOf l)) ∧ w = w' := by
  obtain ⟨ad, c, rfl, _, _⟩ := hv.form (by omega)
  obtain ⟨b, o, rfl, hc⟩ := hv.plain (by omega)
  refine (Try.slices_Min_int b o l.length c l w (by omega) (Nat.le_refl _) hv.len hc).mono fun e w' ⟨he, hw⟩ => ⟨?_, hw.symm⟩
  rw [List.take_length] at he
  exact he
theorem slMax_c (l : List Int) (v : Value) (w : World) (hv : Ints w v l) (hl : 1 ≤ l.length) : Calls Try.prog 81 #[v] w fun e w' => e = .returned (.int .i64 (Lib.maxOf l)) ∧ w = w' := by
  obtain ⟨ad, c, rfl, _, _⟩ := hv.form (by omega)
  obtain ⟨b, o, rfl, hc⟩ := hv.plain (by omega)
  refine (Try.slices_Max_int b o l.length c l w (by omega) (Nat.le_refl _) hv.len hc).mono fun e w' ⟨he, hw⟩ => ⟨?_, hw.symm⟩
  rw [List.take_length] at he
  exact he
theorem slIndex_c (l : List Int) (x : Int) (v : Value) (w : World) (hv : Ints w v l) : Calls Try.prog 79 #[v, .int .i64 x] w fun e w' => e = .returned (.int .i64 (Lib.idxOf l x)) ∧ w = w' := by
  by_cases hl : l.length = 0
  · have h0 : l = [] := List.eq_nil_of_length_eq_zero hl
    subst h0
    obtain ⟨A, c, rfl, _, _⟩ := hv.form0
    exact (Try.slices_Index_int_empty A c x w).mono fun e w' ⟨he, hw⟩ => ⟨he, hw.symm⟩
  obtain ⟨ad, c, rfl, _, _⟩ := hv.form (by omega)
  obtain ⟨b, o, rfl, hc⟩ := hv.plain (by omega)
  refine (Try.slices_Index_int b o l.length c l x w (Nat.le_refl _) hv.len hc).mono fun e w' ⟨he, hw⟩ => ⟨?_, hw.symm⟩
  rw [List.take_length] at he
  exact he
set_option maxRecDepth 100000 in
theorem thinnestPhase_c (n : Int) (l : List Int) (v : Value) (w : World) (hv : Ints w v l) : Calls Try.prog 40 #[.agg #[.int .i64 n, v]] w (RI (lowI n l) w) := by
  obtain ⟨A, c, hve, _, _⟩ := hv.form0
  obtain ⟨m, hm⟩ : ∃ m, m = l.length := ⟨_, rfl⟩
  rw [← hm] at hve
  subst hve
  have hx := one_box w (.cells #[.int .i64 n, .slice A m c] 24)
  have ha := RVar.new (T := 24) w n (.slice A m c)
  have Hv := Lib.hid (hv.ext hx)
  have Hx := Lib.hid hx
  have Ra := Lib.hid ha
  clear hv hx hm ha
  have hc1 := Ra.out.c0
  have hc2 := Ra.out.c1
  have hpl := pcL_len n l
  by_cases hr : RhyOk n l
  · have hq1 : 1 ≤ (pcL n l).length := by
      obtain ⟨nn, rfl, h1, _⟩ := hr.nat
      rw [pcL_len_t hr]; exact h1
    have Hlow : Hid (Lib.idxOf (pcL n l) (Lib.minOf (pcL n l)) = lowI n l) := by unfold Hid; rw [low_idx hq1, lowI_t hr]
    clear hr
    go_enter Try.func40, Try.ntmps40
    go_wp2_with (first | (go_at_call 36; refine (phaseCounts_c n l _ _ Hv.out).mono ?_; rintro e w3 ⟨v3, rfl, ho3, hx3⟩; (obtain ⟨A3, c3, hv3, hn3, hm3⟩ := ho3.slice; have Ho3 := Lib.hid ho3; obtain ⟨q, hq⟩ : ∃ q, q = (pcL n l).length := ⟨_, rfl⟩; have Hq1 := Lib.hid hq1; rw [← hq] at hv3 hn3 hpl hq1; clear hq; subst hv3; clear ho3; have hb : ((q : Int) == 0) = false := (by rw [beq_eq_false_iff_ne]; omega))) | (go_at_call 80; refine (slMin_c (pcL n l) _ _ Ho3.out.ints Hq1.out).mono ?_; rintro e w4 ⟨rfl, rfl⟩) | (go_at_call 79; refine (slIndex_c (pcL n l) _ _ _ Ho3.out.ints).mono ?_; rintro e w5 ⟨rfl, rfl⟩))
    go_ret
    exact ⟨by rw [← Hlow.out]; rfl, Hx.out.tr hx3⟩
  · have Hlow := Lib.hid (lowI_f hr)
    have hp : (pcL n l).length = 0 := by rw [pcL_f hr]; rfl
    clear hr
    go_enter Try.func40, Try.ntmps40
    go_wp2_with (first | (go_at_call 36; refine (phaseCounts_c n l _ _ Hv.out).mono ?_; rintro e w3 ⟨v3, rfl, ho3, hx3⟩; (obtain ⟨A3, c3, hv3, hn3, hm3⟩ := ho3.slice; rw [hp] at hv3 hn3; subst hv3; clear ho3)))
    go_ret
    exact ⟨by rw [← Hlow.out]; rfl, Hx.out.tr hx3⟩
set_option maxRecDepth 100000 in
set_option maxHeartbeats 1000000 in
theorem specThinnestPhase_c (n : Int) (l : List Int) (v : Value) (w : World) (hv : Ints w v l) : Calls Try.prog 39 #[.agg #[.int .i64 n, v]] w (RI (lowI n l) w) := by
  obtain ⟨A, c, hve, _, _⟩ := hv.form0
  obtain ⟨m, hm⟩ : ∃ m, m = l.length := ⟨_, rfl⟩
  rw [← hm] at hve
  subst hve
  have hx := one_box w (.cells #[.int .i64 n, .slice A m c] 24)
  have ha := RVar.new (T := 24) w n (.slice A m c)
  have Hv := Lib.hid (hv.ext hx)
  have Hx := Lib.hid hx
  have Ra := Lib.hid ha
  clear hv hx hm ha
  by_cases hr : RhyOk n l
  · have Hro := Lib.hid hr
    have hq1 : 1 ≤ (pcL n l).length := by
      obtain ⟨nn, rfl, h1, _⟩ := hr.nat
      rw [pcL_len_t hr]; exact h1
    have hpl := pcL_len n l
    have Hlow := Lib.hid (lowI_t hr)
    clear hr
    go_enter Try.func39, Try.ntmps39
    go_wp2_with (first | (go_at_call 76; refine (specRhythmOk_c n l _ _ Hv.out).mono ?_; rintro e w3 ⟨b3, rfl, hb3, hx3⟩; obtain rfl := hb3.2 Hro.out; clear hb3; have hc1 := (Ra.out.ext hx3).c0; have hc2 := (Ra.out.ext hx3).c1) | (go_at_call 35; refine (specPhaseCounts_c n l _ _ (Hv.out.ext hx3)).mono ?_; rintro e w4 ⟨v4, rfl, ho4, hx4⟩; (obtain ⟨A4, c4, hv4, hn4, hm4⟩ := ho4.slice; have Ho4 := Lib.hid ho4; obtain ⟨q, hq⟩ : ∃ q, q = (pcL n l).length := ⟨_, rfl⟩; rw [← hq] at hv4 hn4 hpl hq1; have Hq := Lib.hid hq; clear hq; subst hv4; clear ho4)))
    clear hc1 hc2
    obtain ⟨g, cc, he, _, _, _, hcell, _⟩ := Ho4.out.shape (by rw [← Hq.out]; omega)
    obtain ⟨rfl, rfl⟩ : A4 = some ⟨g, 0, none⟩ ∧ c4 = cc := by simp only [Value.slice.injEq] at he; exact ⟨he.1, he.2.2⟩
    have Hcell := Lib.hid hcell
    clear he hcell
    go_loop [3, 14] (fun b i => ∃ j z : Nat, j ≤ q ∧ z < q ∧ i = .int .i64 j ∧ b = .int .i64 z ∧ Hid (z = lowUp (pcL n l) j)) (fun _ i => q - (intOf i).toNat)
    case atStart => exact ⟨0, 0, Nat.zero_le _, by omega, rfl, rfl, rfl⟩
    case round =>
      obtain ⟨j, z, hj, hz, rfl, rfl, hbest⟩ := hrel
      by_cases hjq : j < q
      · have hx := get_of_lt (l := pcL n l) (k := j) (by rw [← Hq.out]; exact hjq)
        have hy := get_of_lt (l := pcL n l) (k := z) (by rw [← Hq.out]; exact hz)
        have hcx := Hcell.out j _ hx
        have hcy := Hcell.out z _ hy
        obtain ⟨x, hxe⟩ : ∃ x, (pcL n l).getD j 0 = x := ⟨_, rfl⟩
        obtain ⟨y, hye⟩ : ∃ y, (pcL n l).getD z 0 = y := ⟨_, rfl⟩
        rw [hxe] at hcx
        rw [hye] at hcy
        have hjq2 : (j : Int) < (q : Int) := by omega
        have hzq2 : (z : Int) < (q : Int) := by omega
        by_cases xlt : x < y
        · have Hn : Hid (j = lowUp (pcL n l) (j + 1)) := by unfold Hid; rw [lowUp_t]; rw [hxe, ← hbest.out, hye]; exact xlt
          clear hx hy hxe hye
          go_wp2
          go_round
          case rel => exact ⟨j + 1, j, by omega, hjq, by go_num, rfl, Hn⟩
          case measure => simp [intOf]; omega
        · have Hn : Hid (z = lowUp (pcL n l) (j + 1)) := by unfold Hid; rw [lowUp_f]; exact hbest.out; rw [hxe, ← hbest.out, hye]; exact xlt
          have hxy : ¬ x < y := xlt
          have hlt2 : decide (x < y) = false := by simpa using xlt
          clear hx hy hxe hye
          go_wp2
          go_round
          case rel => exact ⟨j + 1, z, by omega, hz, by go_num, rfl, Hn⟩
          case measure => simp [intOf]; omega
      · obtain rfl : j = q := by omega
        go_wp2
        go_ret
        exact ⟨by rw [Hlow.out, ← Hq.out, ← hbest.out]; rfl, Hx.out.tr (hx3.tr hx4)⟩
  · have Hro := Lib.hid hr
    have Hp := Lib.hid (lowI_f hr)
    clear hr
    go_enter Try.func39, Try.ntmps39
    go_wp2_with (first | (go_at_call 76; refine (specRhythmOk_c n l _ _ Hv.out).mono ?_; rintro e w3 ⟨b3, rfl, hb3, hx3⟩; obtain rfl := bool_f hb3 Hro.out; clear hb3))
    go_ret
    exact ⟨by rw [Hp.out]; rfl, Hx.out.tr hx3⟩
set_option maxRecDepth 100000 in
theorem thickestPhase_c (n : Int) (l : List Int) (v : Value) (w : World) (hv : Ints w v l) : Calls Try.prog 42 #[.agg #[.int .i64 n, v]] w (RI (highI n l) w) := by
  obtain ⟨A, c, hve, _, _⟩ := hv.form0
  obtain ⟨m, hm⟩ : ∃ m, m = l.length := ⟨_, rfl⟩
  rw [← hm] at hve
  subst hve
  have hx := one_box w (.cells #[.int .i64 n, .slice A m c] 24)
  have ha := RVar.new (T := 24) w n (.slice A m c)
  have Hv := Lib.hid (hv.ext hx)
  have Hx := Lib.hid hx
  have Ra := Lib.hid ha
  clear hv hx hm ha
  have hc1 := Ra.out.c0
  have hc2 := Ra.out.c1
  have hpl := pcL_len n l
  by_cases hr : RhyOk n l
  · have hq1 : 1 ≤ (pcL n l).length := by
      obtain ⟨nn, rfl, h1, _⟩ := hr.nat
      rw [pcL_len_t hr]; exact h1
    have Hlow : Hid (Lib.idxOf (pcL n l) (Lib.maxOf (pcL n l)) = highI n l) := by unfold Hid; rw [high_idx hq1, highI_t hr]
    clear hr
    go_enter Try.func42, Try.ntmps42
    go_wp2_with (first | (go_at_call 36; refine (phaseCounts_c n l _ _ Hv.out).mono ?_; rintro e w3 ⟨v3, rfl, ho3, hx3⟩; (obtain ⟨A3, c3, hv3, hn3, hm3⟩ := ho3.slice; have Ho3 := Lib.hid ho3; obtain ⟨q, hq⟩ : ∃ q, q = (pcL n l).length := ⟨_, rfl⟩; have Hq1 := Lib.hid hq1; rw [← hq] at hv3 hn3 hpl hq1; clear hq; subst hv3; clear ho3; have hb : ((q : Int) == 0) = false := (by rw [beq_eq_false_iff_ne]; omega))) | (go_at_call 81; refine (slMax_c (pcL n l) _ _ Ho3.out.ints Hq1.out).mono ?_; rintro e w4 ⟨rfl, rfl⟩) | (go_at_call 79; refine (slIndex_c (pcL n l) _ _ _ Ho3.out.ints).mono ?_; rintro e w5 ⟨rfl, rfl⟩))
    go_ret
    exact ⟨by rw [← Hlow.out]; rfl, Hx.out.tr hx3⟩
  · have Hlow := Lib.hid (highI_f hr)
    have hp : (pcL n l).length = 0 := by rw [pcL_f hr]; rfl
    clear hr
    go_enter Try.func42, Try.ntmps42
    go_wp2_with (first | (go_at_call 36; refine (phaseCounts_c n l _ _ Hv.out).mono ?_; rintro e w3 ⟨v3, rfl, ho3, hx3⟩; (obtain ⟨A3, c3, hv3, hn3, hm3⟩ := ho3.slice; rw [hp] at hv3 hn3; subst hv3; clear ho3)))
    go_ret
    exact ⟨by rw [← Hlow.out]; rfl, Hx.out.tr hx3⟩
set_option maxRecDepth 100000 in
set_option maxHeartbeats 1000000 in
theorem specThickestPhase_c (n : Int) (l : List Int) (v : Value) (w : World) (hv : Ints w v l) : Calls Try.prog 41 #[.agg #[.int .i64 n, v]] w (RI (highI n l) w) := by
  obtain ⟨A, c, hve, _, _⟩ := hv.form0
  obtain ⟨m, hm⟩ : ∃ m, m = l.length := ⟨_, rfl⟩
  rw [← hm] at hve
  subst hve
  have hx := one_box w (.cells #[.int .i64 n, .slice A m c] 24)
  have ha := RVar.new (T := 24) w n (.slice A m c)
  have Hv := Lib.hid (hv.ext hx)
  have Hx := Lib.hid hx
  have Ra := Lib.hid ha
  clear hv hx hm ha
  by_cases hr : RhyOk n l
  · have Hro := Lib.hid hr
    have hq1 : 1 ≤ (pcL n l).length := by
      obtain ⟨nn, rfl, h1, _⟩ := hr.nat
      rw [pcL_len_t hr]; exact h1
    have hpl := pcL_len n l
    have Hlow := Lib.hid (highI_t hr)
    clear hr
    go_enter Try.func41, Try.ntmps41
    go_wp2_with (first | (go_at_call 76; refine (specRhythmOk_c n l _ _ Hv.out).mono ?_; rintro e w3 ⟨b3, rfl, hb3, hx3⟩; obtain rfl := hb3.2 Hro.out; clear hb3; have hc1 := (Ra.out.ext hx3).c0; have hc2 := (Ra.out.ext hx3).c1) | (go_at_call 35; refine (specPhaseCounts_c n l _ _ (Hv.out.ext hx3)).mono ?_; rintro e w4 ⟨v4, rfl, ho4, hx4⟩; (obtain ⟨A4, c4, hv4, hn4, hm4⟩ := ho4.slice; have Ho4 := Lib.hid ho4; obtain ⟨q, hq⟩ : ∃ q, q = (pcL n l).length := ⟨_, rfl⟩; rw [← hq] at hv4 hn4 hpl hq1; have Hq := Lib.hid hq; clear hq; subst hv4; clear ho4)))
    clear hc1 hc2
    obtain ⟨g, cc, he, _, _, _, hcell, _⟩ := Ho4.out.shape (by rw [← Hq.out]; omega)
    obtain ⟨rfl, rfl⟩ : A4 = some ⟨g, 0, none⟩ ∧ c4 = cc := by simp only [Value.slice.injEq] at he; exact ⟨he.1, he.2.2⟩
    have Hcell := Lib.hid hcell
    clear he hcell
    go_loop [3, 14] (fun b i => ∃ j z : Nat, j ≤ q ∧ z < q ∧ i = .int .i64 j ∧ b = .int .i64 z ∧ Hid (z = highUp (pcL n l) j)) (fun _ i => q - (intOf i).toNat)
    case atStart => exact ⟨0, 0, Nat.zero_le _, by omega, rfl, rfl, rfl⟩
    case round =>
      obtain ⟨j, z, hj, hz, rfl, rfl, hbest⟩ := hrel
      by_cases hjq : j < q
      · have hx := get_of_lt (l := pcL n l) (k := j) (by rw [← Hq.out]; exact hjq)
        have hy := get_of_lt (l := pcL n l) (k := z) (by rw [← Hq.out]; exact hz)
        have hcx := Hcell.out j _ hx
        have hcy := Hcell.out z _ hy
        obtain ⟨x, hxe⟩ : ∃ x, (pcL n l).getD j 0 = x := ⟨_, rfl⟩
        obtain ⟨y, hye⟩ : ∃ y, (pcL n l).getD z 0 = y := ⟨_, rfl⟩
        rw [hxe] at hcx
        rw [hye] at hcy
        have hjq2 : (j : Int) < (q : Int) := by omega
        have hzq2 : (z : Int) < (q : Int) := by omega
        by_cases ylt : y < x
        · have Hn : Hid (j = highUp (pcL n l) (j + 1)) := by unfold Hid; rw [highUp_t]; rw [hxe, ← hbest.out, hye]; exact ylt
          clear hx hy hxe hye
          go_wp2
          go_round
          case rel => exact ⟨j + 1, j, by omega, hjq, by go_num, rfl, Hn⟩
          case measure => simp [intOf]; omega
        · have Hn : Hid (z = highUp (pcL n l) (j + 1)) := by unfold Hid; rw [highUp_f]; exact hbest.out; rw [hxe, ← hbest.out, hye]; exact ylt
          have hxy : ¬ y < x := ylt
          have hlt2 : decide (y < x) = false := by simpa using ylt
          clear hx hy hxe hye
          go_wp2
          go_round
          case rel => exact ⟨j + 1, z, by omega, hz, by go_num, rfl, Hn⟩
          case measure => simp [intOf]; omega
      · obtain rfl : j = q := by omega
        go_wp2
        go_ret
        exact ⟨by rw [Hlow.out, ← Hq.out, ← hbest.out]; rfl, Hx.out.tr (hx3.tr hx4)⟩
  · have Hro := Lib.hid hr
    have Hp := Lib.hid (highI_f hr)
    clear hr
    go_enter Try.func41, Try.ntmps41
    go_wp2_with (first | (go_at_call 76; refine (specRhythmOk_c n l _ _ Hv.out).mono ?_; rintro e w3 ⟨b3, rfl, hb3, hx3⟩; obtain rfl := bool_f hb3 Hro.out; clear hb3))
    go_ret
    exact ⟨by rw [Hp.out]; rfl, Hx.out.tr hx3⟩
end Go.Proofs.Ytknbnkfdkdhnkaa
