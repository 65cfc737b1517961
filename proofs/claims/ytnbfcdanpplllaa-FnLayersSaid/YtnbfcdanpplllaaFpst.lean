/- Contracts: PolySteps on both sides. -/
import Derived.Test.YtnbfcdanpplllaaFpol
import Derived.Test.YtnbfcdanpplllaaFstp
namespace Go.Proofs.Ytnbfcdanpplllaa
open Go.RowKit
theorem rhL_ok {n : Nat} (hn : 1 ≤ n) (hn2 : n ≤ 24) (l : List Int) : RhyOk n (rhL n l) := ⟨by omega, rhL_inc n l, fun x hx => (mem_rhL.1 hx).1⟩
theorem not_ok0 : ¬ RhyOk 0 [] := fun h => absurd h.1.1 (by decide)
theorem polySteps_c (k m : Int) (w : World) : Calls Try.prog 8 #[.int .i64 k, .int .i64 m] w (RL (stpI (cpI k m) (polL k m)) w) := by
  go_enter Try.func8, Try.ntmps8
  go_wp2_with (first | (go_at_call 6; refine (polyRhythm_c k m _).mono ?_; rintro e w1 ⟨v1, rfl, ho1, hx1⟩; obtain ⟨A1, n1, c1, rfl⟩ := ho1.form))
  go_wp2_with (first | (go_at_call 23; refine (stepsOf_c (cpI k m) (polL k m) _ _ (ho1.ext (one_box w1 (.cells #[.int .i64 (cpI k m), .slice A1 n1 c1] 27))).ints).mono ?_; rintro e w2 ⟨v2, rfl, ho2, hx2⟩))
  go_ret
  have hx3 := hx1.tr (one_box w1 (.cells #[.int .i64 (cpI k m), .slice A1 n1 c1] 27))
  exact ⟨_, rfl, ho2.base hx3.size, hx3.tr hx2⟩
end Go.Proofs.Ytnbfcdanpplllaa
