/- Contracts: l02Of, layer, l06Even. -/
import Derived.Test.YtnbfcdanpplllaaRhy
import Derived.Test.YtnbfcdanpplllaaFhas
import Derived.Outline
import Derived.Deep.RegionLaw
namespace Go.Proofs.Ytnbfcdanpplllaa
open Go.RowKit
theorem layer_c (k n : Nat) (w : World) (hk : k ≤ 1000) (hn : n ≤ 1000) (hk1 : 1 ≤ k) : Calls Try.prog 22 #[.int .i64 k, .int .i64 n] w (RR n (layN k n k) w) := by
  go_enter Try.func22, Try.ntmps22
  go_wp2
  go_loopw [10] (fun i wr => ∃ (j : Nat) (u : Value), j ≤ k ∧ i = .int .i64 j ∧ Hid (RIn w wr n u (layN k n j))) (fun i _ => k - (intOf i).toNat)
  case atStart => exact ⟨0, _, Nat.zero_le _, rfl, RIn.start w n⟩
  case round =>
    obtain ⟨j, u, hj, rfl, hr⟩ := hrel
    obtain ⟨Au, nu, cu, rfl⟩ := hr.out.2.2.1.form
    have hc1 := hr.out.2.1.c1
    have hl : (layN k n j).length ≤ j := Nat.le_of_eq (layN_len k n j)
    by_cases hjk : j < k
    · have Hn := Lib.hid (layN_succ k n j)
      have hm : j * n ≤ 1000000 := Nat.le_trans (Nat.mul_le_mul (show j ≤ 1000 by omega) hn) (by decide)
      have hq : j * n / k ≤ 1000000 := Nat.le_trans (Nat.div_le_self _ _) hm
      have hmw : IntKind.i64.wrap ((j : Int) * (n : Int)) = (j : Int) * (n : Int) := by rw [← Int.natCast_mul]; exact IntWalk.i64_in _ (by omega)
      have hk0 : ¬ k = 0 := by omega
      obtain ⟨q, hqe⟩ : ∃ q, q = j * n / k := ⟨_, rfl⟩
      have hqw : IntKind.i64.wrap (((j : Int) * (n : Int)).tdiv (k : Int)) = (q : Int) := by
        rw [← Int.natCast_mul, Int.tdiv_eq_ediv_of_nonneg (by omega), ← Int.natCast_ediv, ← hqe]; exact IntWalk.i64_in _ (by omega)
      have hk1i : (1 : Int) ≤ (k : Int) := by omega
      have Hq := Lib.hid hqe
      rw [← hqe] at hq
      clear hqe
      go_wp2
      have hc1a : (wr.alloc (.cells #[.int .i64 (q : Int)] 3)).cell? ⟨w.heap.size + 1, 1, none⟩ = some (.slice Au nu cu) := (hr.out.allocD _).2.1.c1
      go_region_law (((refine step_append1 rfl (.tmp 14) (.tmp 20) rfl rfl rfl (hr.out.allocD _).2.2.1 (cell_new _ _ _) (by unfold I64; omega) (by omega) (hr.out.allocD _).size ?_; intro v' w' ho hg hb hat; obtain ⟨Av, nv, cv, rfl⟩ := ho.form; have Hr := Lib.hid ((hr.out.allocD _).app ho hg); have hc := Hr.out.2.1.c1; have hf := Hr.out.2.1.f 1)))
      all_goals
        go_wp2
        go_roundw
        case rel => exact ⟨j + 1, _, by omega, by go_num, by unfold Hid; rw [Hn.out, ← Hq.out]; exact Hr.out.2.2⟩
        case measure => simp [intOf]; omega
    · obtain rfl : j = k := by omega
      have hc0 := hr.out.2.1.c0
      have hd0 := hr.out.1.c0
      have hf0 := hr.out.1.f 0
      have hd1 := (hr.out.1.set0 (m := (n : Int))).c1
      have hf1 := (hr.out.1.set0 (m := (n : Int))).f 1
      have Hr := Lib.hid hr.out.fin
      have hz := hr.out.size
      go_wp2
      have hcf0 := Hr.out.1.c0
      have hcf1 := Hr.out.1.c1
      exact bodyPost_ret (v := .agg #[.int .i64 n, .slice Au nu cu]) (by simp [results, Try.results22, hcf0, hcf1, go_sem]) rfl ⟨_, rfl, Hr.out.2.1, Hr.out.2.2⟩
end Go.Proofs.Ytnbfcdanpplllaa
