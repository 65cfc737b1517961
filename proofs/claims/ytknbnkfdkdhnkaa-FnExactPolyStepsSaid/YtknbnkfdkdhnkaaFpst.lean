/- Contracts: PolySteps on both sides. -/
import Derived.Test.YtknbnkfdkdhnkaaFpol
import Derived.Test.YtknbnkfdkdhnkaaFstp
namespace Go.Proofs.Ytknbnkfdkdhnkaa
open Go.RowKit
theorem rhL_ok {n : Nat} (hn : 1 ≤ n) (hn2 : n ≤ 24) (l : List Int) : RhyOk n (rhL n l) := ⟨by omega, rhL_inc n l, fun x hx => (mem_rhL.1 hx).1⟩
theorem not_ok0 : ¬ RhyOk 0 [] := fun h => absurd h.1.1 (by decide)
theorem polySteps_c (k m : Int) (w : World) : Calls Try.prog 30 #[.int .i64 k, .int .i64 m] w (RL (stpI (cpI k m) (polL k m)) w) := by
  go_enter Try.func30, Try.ntmps30
  go_wp2_with (first | (go_at_call 16; refine (polyRhythm_c k m _).mono ?_; rintro e w1 ⟨v1, rfl, ho1, hx1⟩; obtain ⟨A1, n1, c1, rfl⟩ := ho1.form))
  go_wp2_with (first | (go_at_call 70; refine (stepsOf_c (cpI k m) (polL k m) _ _ (ho1.ext (one_box w1 (.cells #[.int .i64 (cpI k m), .slice A1 n1 c1] 24))).ints).mono ?_; rintro e w2 ⟨v2, rfl, ho2, hx2⟩))
  go_ret
  have hx3 := hx1.tr (one_box w1 (.cells #[.int .i64 (cpI k m), .slice A1 n1 c1] 24))
  exact ⟨_, rfl, ho2.base hx3.size, hx3.tr hx2⟩
theorem specPolySteps_c (k m : Int) (w : World) : Calls Try.prog 29 #[.int .i64 k, .int .i64 m] w (RL (stpI (cpI k m) (polL k m)) w) := by
  by_cases h0 : cpI k m = 0
  · have Hb := Lib.hid (pol_f h0)
    have H : Hid (stpI (cpI k m) (polL k m) = []) := by unfold Hid; rw [h0, (pol_f h0).2]; exact stpI_f not_ok0
    clear h0
    go_enter Try.func29, Try.ntmps29
    go_wp2_with (first | (go_at_call 15; refine (specPolyRhythm_c k m _).mono ?_; rintro e w1 ⟨v1, rfl, ho1, hx1⟩; rw [Hb.out.1]; obtain ⟨A1, n1, c1, rfl⟩ := ho1.form))
    go_ret
    exact ⟨_, rfl, by rw [H.out]; exact Own.nil _ _, hx1.tr (one_box w1 _)⟩
  · have hr : RhyOk (cpI k m) (polL k m) := by
      obtain ⟨a, b, n, rfl, rfl, hn, ha1, ha12, hb1, hb12, hn1, hn24, hd, hd2, -⟩ := cpI_pos h0
      rw [hn, (pol_t hn hn1).2]
      exact rhL_ok hn1 hn24 _
    have Hb : Hid (polB k m = true) := by unfold Hid polB; simpa using h0
    have Hr := Lib.hid hr
    have H := Lib.hid (stpI_t hr)
    clear h0 hr
    go_enter Try.func29, Try.ntmps29
    go_wp2_with (first | (go_at_call 15; refine (specPolyRhythm_c k m _).mono ?_; rintro e w1 ⟨v1, rfl, ho1, hx1⟩; rw [Hb.out]; obtain ⟨A1, n1, c1, rfl⟩ := ho1.form))
    go_wp2_with (first | (go_at_call 69; refine (l03Steps_c (cpI k m) (polL k m) _ _ (ho1.ext (one_box w1 (.cells #[.int .i64 (cpI k m), .slice A1 n1 c1] 24))).ints Hr.out).mono ?_; rintro e w2 ⟨v2, rfl, ho2, hx2⟩))
    go_ret
    have hx3 := hx1.tr (one_box w1 (.cells #[.int .i64 (cpI k m), .slice A1 n1 c1] 24))
    exact ⟨_, rfl, by rw [H.out]; exact ho2.base hx3.size, hx3.tr hx2⟩
end Go.Proofs.Ytknbnkfdkdhnkaa
