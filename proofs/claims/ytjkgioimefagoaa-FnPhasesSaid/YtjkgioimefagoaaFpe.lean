/- Contracts: slices.Min, slices.Max, slices.Index at []int in this seat's words; ThinnestPhase and ThickestPhase on both sides. -/
import Derived.Test.YtjkgioimefagoaaFpd
namespace Go.Proofs.Ytjkgioimefagoaa
open Go.RowKit
theorem slMin_c (l : List Int) (v : Value) (w : World) (hv : Ints w v l) (hl : 1 ≤ l.length) : Calls Try.prog 30 #[v] w fun e w' => e = .returned (.int .i64 (Lib.minOf l)) ∧ w = w' := by
  obtain ⟨ad, c, rfl, _, _⟩ := hv.form (by omega)
  obtain ⟨b, o, rfl, hc⟩ := hv.plain (by omega)
  refine (Try.slices_Min_int b o l.length c l w (by omega) (Nat.le_refl _) hv.len hc).mono fun e w' ⟨he, hw⟩ => ⟨?_, hw.symm⟩
  rw [List.take_length] at he
  exact he
theorem slMax_c (l : List Int) (v : Value) (w : World) (hv : Ints w v l) (hl : 1 ≤ l.length) : Calls Try.prog 31 #[v] w fun e w' => e = .returned (.int .i64 (Lib.maxOf l)) ∧ w = w' := by
  obtain ⟨ad, c, rfl, _, _⟩ := hv.form (by omega)
  obtain ⟨b, o, rfl, hc⟩ := hv.plain (by omega)
  refine (Try.slices_Max_int b o l.length c l w (by omega) (Nat.le_refl _) hv.len hc).mono fun e w' ⟨he, hw⟩ => ⟨?_, hw.symm⟩
  rw [List.take_length] at he
  exact he
theorem slIndex_c (l : List Int) (x : Int) (v : Value) (w : World) (hv : Ints w v l) : Calls Try.prog 29 #[v, .int .i64 x] w fun e w' => e = .returned (.int .i64 (Lib.idxOf l x)) ∧ w = w' := by
  by_cases hl : l.length = 0
  · have h0 : l = [] := List.eq_nil_of_length_eq_zero hl
    subst h0
    obtain ⟨A, c, rfl, _, _⟩ := hv.form0
    exact (Try.slices_Index_int_empty A c x w).mono fun e w' ⟨he, hw⟩ => ⟨he, hw.symm⟩
  obtain ⟨ad, c, rfl, _, _⟩ := hv.form (by omega)
  obtain ⟨b, o, rfl, hc⟩ := hv.plain (by omega)
  refine (Try.slices_Index_int b o l.length c l x w (Nat.le_refl _) hv.len hc).mono fun e w' ⟨he, hw⟩ => ⟨?_, hw.symm⟩
  rw [List.take_length] at he
  exact he
set_option maxRecDepth 100000 in
theorem thinnestPhase_c (n : Int) (l : List Int) (v : Value) (w : World) (hv : Ints w v l) : Calls Try.prog 13 #[.agg #[.int .i64 n, v]] w (RI (lowI n l) w) := by
  obtain ⟨A, c, hve, _, _⟩ := hv.form0
  obtain ⟨m, hm⟩ : ∃ m, m = l.length := ⟨_, rfl⟩
  rw [← hm] at hve
  subst hve
  have hx := one_box w (.cells #[.int .i64 n, .slice A m c] 25)
  have ha := RVar.new (T := 25) w n (.slice A m c)
  have Hv := Lib.hid (hv.ext hx)
  have Hx := Lib.hid hx
  have Ra := Lib.hid ha
  clear hv hx hm ha
  have hc1 := Ra.out.c0
  have hc2 := Ra.out.c1
  have hpl := pcL_len n l
  by_cases hr : RhyOk n l
  · have hq1 : 1 ≤ (pcL n l).length := by
      obtain ⟨nn, rfl, h1, _⟩ := hr.nat
      rw [pcL_len_t hr]; exact h1
    have Hlow : Hid (Lib.idxOf (pcL n l) (Lib.minOf (pcL n l)) = lowI n l) := by unfold Hid; rw [low_idx hq1, lowI_t hr]
    clear hr
    go_enter Try.func13, Try.ntmps13
    go_wp2_with (first | (go_at_call 5; refine (phaseCounts_c n l _ _ Hv.out).mono ?_; rintro e w3 ⟨v3, rfl, ho3, hx3⟩; (obtain ⟨A3, c3, hv3, hn3, hm3⟩ := ho3.slice; have Ho3 := Lib.hid ho3; obtain ⟨q, hq⟩ : ∃ q, q = (pcL n l).length := ⟨_, rfl⟩; have Hq1 := Lib.hid hq1; rw [← hq] at hv3 hn3 hpl hq1; clear hq; subst hv3; clear ho3; have hb : ((q : Int) == 0) = false := (by rw [beq_eq_false_iff_ne]; omega))) | (go_at_call 30; refine (slMin_c (pcL n l) _ _ Ho3.out.ints Hq1.out).mono ?_; rintro e w4 ⟨rfl, rfl⟩) | (go_at_call 29; refine (slIndex_c (pcL n l) _ _ _ Ho3.out.ints).mono ?_; rintro e w5 ⟨rfl, rfl⟩))
    go_ret
    exact ⟨by rw [← Hlow.out]; rfl, Hx.out.tr hx3⟩
  · have Hlow := Lib.hid (lowI_f hr)
    have hp : (pcL n l).length = 0 := by rw [pcL_f hr]; rfl
    clear hr
    go_enter Try.func13, Try.ntmps13
    go_wp2_with (first | (go_at_call 5; refine (phaseCounts_c n l _ _ Hv.out).mono ?_; rintro e w3 ⟨v3, rfl, ho3, hx3⟩; (obtain ⟨A3, c3, hv3, hn3, hm3⟩ := ho3.slice; rw [hp] at hv3 hn3; subst hv3; clear ho3)))
    go_ret
    exact ⟨by rw [← Hlow.out]; rfl, Hx.out.tr hx3⟩
set_option maxRecDepth 100000 in
theorem thickestPhase_c (n : Int) (l : List Int) (v : Value) (w : World) (hv : Ints w v l) : Calls Try.prog 14 #[.agg #[.int .i64 n, v]] w (RI (highI n l) w) := by
  obtain ⟨A, c, hve, _, _⟩ := hv.form0
  obtain ⟨m, hm⟩ : ∃ m, m = l.length := ⟨_, rfl⟩
  rw [← hm] at hve
  subst hve
  have hx := one_box w (.cells #[.int .i64 n, .slice A m c] 25)
  have ha := RVar.new (T := 25) w n (.slice A m c)
  have Hv := Lib.hid (hv.ext hx)
  have Hx := Lib.hid hx
  have Ra := Lib.hid ha
  clear hv hx hm ha
  have hc1 := Ra.out.c0
  have hc2 := Ra.out.c1
  have hpl := pcL_len n l
  by_cases hr : RhyOk n l
  · have hq1 : 1 ≤ (pcL n l).length := by
      obtain ⟨nn, rfl, h1, _⟩ := hr.nat
      rw [pcL_len_t hr]; exact h1
    have Hlow : Hid (Lib.idxOf (pcL n l) (Lib.maxOf (pcL n l)) = highI n l) := by unfold Hid; rw [high_idx hq1, highI_t hr]
    clear hr
    go_enter Try.func14, Try.ntmps14
    go_wp2_with (first | (go_at_call 5; refine (phaseCounts_c n l _ _ Hv.out).mono ?_; rintro e w3 ⟨v3, rfl, ho3, hx3⟩; (obtain ⟨A3, c3, hv3, hn3, hm3⟩ := ho3.slice; have Ho3 := Lib.hid ho3; obtain ⟨q, hq⟩ : ∃ q, q = (pcL n l).length := ⟨_, rfl⟩; have Hq1 := Lib.hid hq1; rw [← hq] at hv3 hn3 hpl hq1; clear hq; subst hv3; clear ho3; have hb : ((q : Int) == 0) = false := (by rw [beq_eq_false_iff_ne]; omega))) | (go_at_call 31; refine (slMax_c (pcL n l) _ _ Ho3.out.ints Hq1.out).mono ?_; rintro e w4 ⟨rfl, rfl⟩) | (go_at_call 29; refine (slIndex_c (pcL n l) _ _ _ Ho3.out.ints).mono ?_; rintro e w5 ⟨rfl, rfl⟩))
    go_ret
    exact ⟨by rw [← Hlow.out]; rfl, Hx.out.tr hx3⟩
  · have Hlow := Lib.hid (highI_f hr)
    have hp : (pcL n l).length = 0 := by rw [pcL_f hr]; rfl
    clear hr
    go_enter Try.func14, Try.ntmps14
    go_wp2_with (first | (go_at_call 5; refine (phaseCounts_c n l _ _ Hv.out).mono ?_; rintro e w3 ⟨v3, rfl, ho3, hx3⟩; (obtain ⟨A3, c3, hv3, hn3, hm3⟩ := ho3.slice; rw [hp] at hv3 hn3; subst hv3; clear ho3)))
    go_ret
    exact ⟨by rw [← Hlow.out]; rfl, Hx.out.tr hx3⟩
end Go.Proofs.Ytjkgioimefagoaa
