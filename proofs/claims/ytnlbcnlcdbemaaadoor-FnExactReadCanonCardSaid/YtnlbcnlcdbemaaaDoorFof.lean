/- Contracts: l02Of, layer, l06Even. -/
import Derived.Test.YtnlbcnlcdbemaaaDoorRhy
import Derived.Test.YtnlbcnlcdbemaaaDoorFhas
import Derived.Outline
import Derived.Deep.RegionLaw
namespace Go.Proofs.YtnlbcnlcdbemaaaDoor
open Go.RowKit
theorem l02Of_c (n : Nat) (l : List Int) (v : Value) (w : World) (hv : Ints w v l) (hn : n ≤ 1000) : Calls Tryd.prog 26 #[.int .i64 n, v] w (RR n (rhL n l) w) := by
  have Hv := Lib.hid hv
  clear hv
  go_enter Tryd.func26, Tryd.ntmps26
  go_wp2
  go_loopw [6] (fun i wr => ∃ (k : Nat) (u : Value), k ≤ n ∧ i = .int .i64 k ∧ Hid (RIn w wr n u (rhL k l))) (fun i _ => n - (intOf i).toNat)
  case atStart => exact ⟨0, _, Nat.zero_le _, rfl, RIn.start w n⟩
  case round =>
    obtain ⟨k, u, hk, rfl, hr⟩ := hrel
    obtain ⟨Au, nu, cu, rfl⟩ := hr.out.2.2.1.form
    have hc1 := hr.out.2.1.c1
    have hl := rhL_len k l
    by_cases hkn : k < n
    · by_cases hin : (k : Int) ∈ l
      · have Hn := Lib.hid (rhL_take_t hin)
        have Hin := Lib.hid hin
        clear hin
        go_wp2_with (first | (go_at_call 24; refine (l02Has_c l _ _ _ (Hv.out.ext hr.out.2.2.2)).mono ?_; rintro e wz ⟨b, rfl, hb, rfl⟩; obtain rfl := hb.2 Hin.out; clear hb) | (at_builtin; refine wp_append1 rfl (.tmp 18) (.tmp 20) rfl rfl rfl hr.out.2.2.1 (by unfold I64; omega) (by omega) hr.out.size ?_; intro v' w' ho hg hb hat; obtain ⟨Av, nv, cv, rfl⟩ := ho.form; have Hr := Lib.hid (hr.out.app ho hg); have hc := Hr.out.2.1.c1; have hf := Hr.out.2.1.f 1))
        go_roundw
        case rel => exact ⟨k + 1, _, by omega, by go_num, by unfold Hid; rw [Hn.out]; exact Hr.out.2.2⟩
        case measure => simp [intOf]; omega
      · have Hn := Lib.hid (rhL_take_f hin)
        have Hin := Lib.hid hin
        clear hin
        go_wp2_with (first | (go_at_call 24; refine (l02Has_c l _ _ _ (Hv.out.ext hr.out.2.2.2)).mono ?_; rintro e wz ⟨b, rfl, hb, rfl⟩; obtain rfl := bool_f hb Hin.out; clear hb))
        go_roundw
        case rel => exact ⟨k + 1, _, by omega, by go_num, by unfold Hid; rw [Hn.out]; exact hr.out⟩
        case measure => simp [intOf]; omega
    · obtain rfl : k = n := by omega
      have hc0 := hr.out.2.1.c0
      have hd0 := hr.out.1.c0
      have hf0 := hr.out.1.f 0
      have hd1 := (hr.out.1.set0 (m := (k : Int))).c1
      have hf1 := (hr.out.1.set0 (m := (k : Int))).f 1
      have Hr := Lib.hid hr.out.fin
      have hz := hr.out.size
      go_wp2
      have hcf0 := Hr.out.1.c0
      have hcf1 := Hr.out.1.c1
      exact bodyPost_ret (v := .agg #[.int .i64 k, .slice Au nu cu]) (by simp [results, Tryd.results26, hcf0, hcf1, go_sem]) rfl ⟨_, rfl, Hr.out.2.1, Hr.out.2.2⟩
end Go.Proofs.YtnlbcnlcdbemaaaDoor
