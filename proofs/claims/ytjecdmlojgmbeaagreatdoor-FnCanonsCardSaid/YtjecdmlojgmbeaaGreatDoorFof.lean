/- Contracts: l02Of, layer, l06Even. -/
import Derived.Test.YtjecdmlojgmbeaaGreatDoorRhy
import Derived.Test.YtjecdmlojgmbeaaGreatDoorFhas
import Derived.Outline
import Derived.Deep.RegionLaw
namespace Go.Proofs.YtjecdmlojgmbeaaGreatDoor
open Go.RowKit
theorem l02Of_c (n : Nat) (l : List Int) (v : Value) (w : World) (hv : Ints w v l) (hn : n ≤ 1000) : Calls Tryz.prog 37 #[.int .i64 n, v] w (RR n (rhL n l) w) := by
  have Hv := Lib.hid hv
  clear hv
  go_enter Tryz.func37, Tryz.ntmps37
  go_wp2
  go_loopw [6] (fun i wr => ∃ (k : Nat) (u : Value), k ≤ n ∧ i = .int .i64 k ∧ Hid (RIn w wr n u (rhL k l))) (fun i _ => n - (intOf i).toNat)
  case atStart => exact ⟨0, _, Nat.zero_le _, rfl, RIn.start w n⟩
  case round =>
    obtain ⟨k, u, hk, rfl, hr⟩ := hrel
    obtain ⟨Au, nu, cu, rfl⟩ := hr.out.2.2.1.form
    have hc1 := hr.out.2.1.c1
    have hl := rhL_len k l
    by_cases hkn : k < n
    · by_cases hin : (k : Int) ∈ l
      · have Hn := Lib.hid (rhL_take_t hin)
        have Hin := Lib.hid hin
        clear hin
        go_wp2_with (first | (go_at_call 49; refine (l02Has_c l _ _ _ (Hv.out.ext hr.out.2.2.2)).mono ?_; rintro e wz ⟨b, rfl, hb, rfl⟩; obtain rfl := hb.2 Hin.out; clear hb) | (at_builtin; refine wp_append1 rfl (.tmp 18) (.tmp 20) rfl rfl rfl hr.out.2.2.1 (by unfold I64; omega) (by omega) hr.out.size ?_; intro v' w' ho hg hb hat; obtain ⟨Av, nv, cv, rfl⟩ := ho.form; have Hr := Lib.hid (hr.out.app ho hg); have hc := Hr.out.2.1.c1; have hf := Hr.out.2.1.f 1))
        go_roundw
        case rel => exact ⟨k + 1, _, by omega, by go_num, by unfold Hid; rw [Hn.out]; exact Hr.out.2.2⟩
        case measure => simp [intOf]; omega
      · have Hn := Lib.hid (rhL_take_f hin)
        have Hin := Lib.hid hin
        clear hin
        go_wp2_with (first | (go_at_call 49; refine (l02Has_c l _ _ _ (Hv.out.ext hr.out.2.2.2)).mono ?_; rintro e wz ⟨b, rfl, hb, rfl⟩; obtain rfl := bool_f hb Hin.out; clear hb))
        go_roundw
        case rel => exact ⟨k + 1, _, by omega, by go_num, by unfold Hid; rw [Hn.out]; exact hr.out⟩
        case measure => simp [intOf]; omega
    · obtain rfl : k = n := by omega
      have hc0 := hr.out.2.1.c0
      have hd0 := hr.out.1.c0
      have hf0 := hr.out.1.f 0
      have hd1 := (hr.out.1.set0 (m := (k : Int))).c1
      have hf1 := (hr.out.1.set0 (m := (k : Int))).f 1
      have Hr := Lib.hid hr.out.fin
      have hz := hr.out.size
      go_wp2
      have hcf0 := Hr.out.1.c0
      have hcf1 := Hr.out.1.c1
      exact bodyPost_ret (v := .agg #[.int .i64 k, .slice Au nu cu]) (by simp [results, Tryz.results37, hcf0, hcf1, go_sem]) rfl ⟨_, rfl, Hr.out.2.1, Hr.out.2.2⟩
theorem l06Even_c (k n : Nat) (w : World) (hk : k ≤ 1000) (hn : n ≤ 1000) (hk1 : 1 ≤ k) : Calls Tryz.prog 40 #[.int .i64 k, .int .i64 n, .int .i64 0] w (RR n (rhL n (layN k n k)) w) := by
  go_enter Tryz.func40, Tryz.ntmps40
  go_wp2
  go_loopw [7, 8] (fun o i wr => ∃ j : Nat, j ≤ k ∧ i = .int .i64 j ∧ Hid (ROut w wr o (layN k n j))) (fun _ i _ => k - (intOf i).toNat)
  case atStart => exact ⟨0, Nat.zero_le _, rfl, ROut.start w⟩
  case round =>
    obtain ⟨j, hj, rfl, hr⟩ := hrel
    have hl : (layN k n j).length ≤ j := Nat.le_of_eq (layN_len k n j)
    by_cases hjk : j < k
    · have Hn := Lib.hid (layN_succ k n j)
      have hm : j * n ≤ 1000000 := Nat.le_trans (Nat.mul_le_mul (show j ≤ 1000 by omega) hn) (by decide)
      have hq : j * n / k ≤ 1000000 := Nat.le_trans (Nat.div_le_self _ _) hm
      have hmw : IntKind.i64.wrap ((j : Int) * (n : Int)) = (j : Int) * (n : Int) := by rw [← Int.natCast_mul]; exact IntWalk.i64_in _ (by omega)
      have hk0 : ¬ k = 0 := by omega
      obtain ⟨q, hqe⟩ : ∃ q, q = j * n / k := ⟨_, rfl⟩
      have hqw : IntKind.i64.wrap (((j : Int) * (n : Int)).tdiv (k : Int)) = (q : Int) := by
        rw [← Int.natCast_mul, Int.tdiv_eq_ediv_of_nonneg (by omega), ← Int.natCast_ediv, ← hqe]; exact IntWalk.i64_in _ (by omega)
      have hk1i : (1 : Int) ≤ (k : Int) := by omega
      have Hq := Lib.hid hqe
      rw [← hqe] at hq
      clear hqe
      go_wp2_with (first | (at_builtin; refine wp_append1 rfl (.tmp 15) (.tmp 23) rfl rfl rfl hr.out.2.1 (by unfold I64; omega) (by omega) hr.out.size ?_; intro v' w' ho hg hb hat))
      go_roundw
      case rel => exact ⟨j + 1, by omega, by go_num, by unfold Hid; rw [Hn.out, ← Hq.out]; exact hr.out.app ho hg⟩
      case measure => simp [intOf]; omega
    · obtain rfl : j = k := by omega
      go_wp2_with (first | (go_at_call 37; refine (l02Of_c n (layN j n j) _ _ hr.out.2.1.ints (by omega)).mono ?_; rintro e w2 ⟨u2, rfl, ho2, hx2⟩; obtain ⟨Au, nu, cu, rfl⟩ := ho2.form; have Hr := Lib.hid (ret_fin (n := (n : Int)) (hr.out.1.ext hx2) ho2 hr.out.size (hr.out.2.2.tr hx2)); have hd0 := (hr.out.1.ext hx2).c0; have hf0 := (hr.out.1.ext hx2).f 0; have hd1 := ((hr.out.1.ext hx2).set0 (m := (n : Int))).c1; have hf1 := ((hr.out.1.ext hx2).set0 (m := (n : Int))).f 1))
      have hcf0 := Hr.out.1.c0
      have hcf1 := Hr.out.1.c1
      exact bodyPost_ret (v := .agg #[.int .i64 n, .slice Au nu cu]) (by simp [results, Tryz.results40, hcf0, hcf1, go_sem]) rfl ⟨_, rfl, Hr.out.2.1, Hr.out.2.2⟩
end Go.Proofs.YtjecdmlojgmbeaaGreatDoor
