/- Contracts: RhythmOk on both sides. -/
import Derived.Test.YtjecdmlojgmbeaaGreatDoorRhy
import Derived.Test.YtjecdmlojgmbeaaGreatDoorFa
namespace Go.Proofs.YtjecdmlojgmbeaaGreatDoor
open Go.RowKit
set_option maxHeartbeats 1000000 in
theorem rhythmOk_c (n : Int) (l : List Int) (v : Value) (w : World) (hv : Ints w v l) : Calls Tryz.prog 31 #[.agg #[.int .i64 n, v]] w (RB (RhyOk n l) w) := by
  have hlen := hv.len
  obtain ⟨A, c, rfl, hlc, hcm⟩ := hv.form0
  have hx0 := one_box w (.cells #[.int .i64 n, .slice A l.length c] 25)
  obtain ⟨_, _, _, _, _, hcell⟩ := hv.ext hx0
  have Hv := Lib.hid (hv.ext hx0)
  have Hx0 := Lib.hid hx0
  clear hv hcell hx0
  by_cases hn : 1 ≤ n ∧ n ≤ 24
  · go_enter Tryz.func31, Tryz.ntmps31
    go_wp2_with (first | (go_at_call 30; refine (within_t _ ?_).mono ?_; (focus omega); rintro e w1 ⟨rfl, rfl⟩) | (go_at_call 30; refine (within_f _ ?_).mono ?_; (focus omega); rintro e w1 ⟨rfl, rfl⟩))
    go_loop [8] (fun i => ∃ k : Nat, k ≤ l.length ∧ i = .int .i64 k ∧ Hid (RPre n l k)) (fun i => l.length - (intOf i).toNat)
    case atStart => exact ⟨0, Nat.zero_le _, rfl, RPre.zero _ _⟩
    case round =>
      obtain ⟨k, hk, rfl, hpre⟩ := hrel
      by_cases hkl : k < l.length
      · obtain ⟨ad, c', hA, _, _⟩ := Hv.out.form (by omega)
        obtain ⟨rfl, rfl⟩ : A = some ad ∧ c = c' := by simpa using hA
        obtain ⟨x, hx⟩ : ∃ x, l[k]? = some x := ⟨_, List.getElem?_eq_getElem (by omega)⟩
        have hc := Hv.out.cell hx
        have Hx := Lib.hid hx
        have hkl2 : (k : Int) < (l.length : Int) := by omega
        clear hx hA
        by_cases hxr : 0 ≤ x ∧ x ≤ n - 1
        · by_cases hk0 : k = 0
          · have hk0' : (k : Int) ≤ 0 := by omega
            have Hn : Hid (RPre n l (k + 1)) := hpre.out.succ Hx.out (by omega) (fun y h => by omega)
            clear hk0
            go_wp2_with (first | (go_at_call 30; refine (within_t _ ?_).mono ?_; (focus omega); rintro e w1 ⟨rfl, rfl⟩) | (go_at_call 30; refine (within_f _ ?_).mono ?_; (focus omega); rintro e w1 ⟨rfl, rfl⟩))
            go_round
            case rel => exact ⟨k + 1, by omega, by go_num, Hn⟩
            case measure => simp [intOf]; omega
          · have hk0' : (0 : Int) < k := by omega
            obtain ⟨y, hy⟩ : ∃ y, l[k - 1]? = some y := ⟨_, List.getElem?_eq_getElem (by omega)⟩
            have hc' := Hv.out.cell hy
            have Hy := Lib.hid hy
            clear hy hk0
            by_cases hxy : y < x
            · have Hn : Hid (RPre n l (k + 1)) := hpre.out.succ Hx.out (by omega) (fun z _ hz => by rw [Hy.out] at hz; cases hz; exact hxy)
              go_wp2_with (first | (go_at_call 30; refine (within_t _ ?_).mono ?_; (focus omega); rintro e w1 ⟨rfl, rfl⟩) | (go_at_call 30; refine (within_f _ ?_).mono ?_; (focus omega); rintro e w1 ⟨rfl, rfl⟩))
              go_round
              case rel => exact ⟨k + 1, by omega, by go_num, Hn⟩
              case measure => simp [intOf]; omega
            · have Hf : Hid (¬ RhyOk n l) := fun h => hxy (inc_adj h.2.1 (by omega) Hx.out Hy.out)
              have hxy' : x ≤ y := by omega
              go_wp2_with (first | (go_at_call 30; refine (within_t _ ?_).mono ?_; (focus omega); rintro e w1 ⟨rfl, rfl⟩) | (go_at_call 30; refine (within_f _ ?_).mono ?_; (focus omega); rintro e w1 ⟨rfl, rfl⟩))
              go_ret
              exact RB.f Hf.out Hx0.out
        · have Hf : Hid (¬ RhyOk n l) := fun h => hxr (by have := h.2.2 x (List.mem_of_getElem? Hx.out); omega)
          go_wp2_with (first | (go_at_call 30; refine (within_t _ ?_).mono ?_; (focus omega); rintro e w1 ⟨rfl, rfl⟩) | (go_at_call 30; refine (within_f _ ?_).mono ?_; (focus omega); rintro e w1 ⟨rfl, rfl⟩))
          go_ret
          exact RB.f Hf.out Hx0.out
      · have Ht : Hid (RhyOk n l) := ⟨hn, (hpre.out.all (by omega)).1, (hpre.out.all (by omega)).2⟩
        go_wp2_with (first | (go_at_call 30; refine (within_t _ ?_).mono ?_; (focus omega); rintro e w1 ⟨rfl, rfl⟩) | (go_at_call 30; refine (within_f _ ?_).mono ?_; (focus omega); rintro e w1 ⟨rfl, rfl⟩))
        go_ret
        exact RB.t Ht.out Hx0.out
  · have Hf : Hid (¬ RhyOk n l) := fun h => hn h.1
    go_enter Tryz.func31, Tryz.ntmps31
    go_wp2_with (first | (go_at_call 30; refine (within_t _ ?_).mono ?_; (focus omega); rintro e w1 ⟨rfl, rfl⟩) | (go_at_call 30; refine (within_f _ ?_).mono ?_; (focus omega); rintro e w1 ⟨rfl, rfl⟩))
    first
      | (go_ret; exact RB.f Hf.out Hx0.out)
      | skip
    all_goals
      go_loop [8] (fun i => ∃ k : Nat, k ≤ l.length ∧ i = .int .i64 k) (fun i => l.length - (intOf i).toNat)
      case atStart => exact ⟨0, Nat.zero_le _, rfl⟩
      case round =>
        obtain ⟨k, hk, rfl⟩ := hrel
        by_cases hkl : k < l.length
        · obtain ⟨ad, c', hA, _, _⟩ := Hv.out.form (by omega)
          obtain ⟨rfl, rfl⟩ : A = some ad ∧ c = c' := by simpa using hA
          obtain ⟨x, hx⟩ : ∃ x, l[k]? = some x := ⟨_, List.getElem?_eq_getElem (by omega)⟩
          have hc := Hv.out.cell hx
          have hkl2 : (k : Int) < (l.length : Int) := by omega
          obtain ⟨m, hm⟩ : ∃ m, IntKind.i64.wrap (n - 1) = m := ⟨_, rfl⟩
          clear hx hA hn
          by_cases hxr : 0 ≤ x ∧ x ≤ m
          · by_cases hk0 : k = 0
            · have hk0' : (k : Int) ≤ 0 := by omega
              clear hk0
              go_wp2_with (first | (go_at_call 30; refine (within_t _ ?_).mono ?_; (focus omega); rintro e w1 ⟨rfl, rfl⟩) | (go_at_call 30; refine (within_f _ ?_).mono ?_; (focus omega); rintro e w1 ⟨rfl, rfl⟩))
              go_round
              case rel => exact ⟨k + 1, by omega, by go_num⟩
              case measure => simp [intOf]; omega
            · have hk0' : (0 : Int) < k := by omega
              obtain ⟨y, hy⟩ : ∃ y, l[k - 1]? = some y := ⟨_, List.getElem?_eq_getElem (by omega)⟩
              have hc' := Hv.out.cell hy
              clear hy hk0
              by_cases hxy : y < x
              · go_wp2_with (first | (go_at_call 30; refine (within_t _ ?_).mono ?_; (focus omega); rintro e w1 ⟨rfl, rfl⟩) | (go_at_call 30; refine (within_f _ ?_).mono ?_; (focus omega); rintro e w1 ⟨rfl, rfl⟩))
                go_round
                case rel => exact ⟨k + 1, by omega, by go_num⟩
                case measure => simp [intOf]; omega
              · have hxy' : x ≤ y := by omega
                go_wp2_with (first | (go_at_call 30; refine (within_t _ ?_).mono ?_; (focus omega); rintro e w1 ⟨rfl, rfl⟩) | (go_at_call 30; refine (within_f _ ?_).mono ?_; (focus omega); rintro e w1 ⟨rfl, rfl⟩))
                go_ret
                exact RB.f Hf.out Hx0.out
          · go_wp2_with (first | (go_at_call 30; refine (within_t _ ?_).mono ?_; (focus omega); rintro e w1 ⟨rfl, rfl⟩) | (go_at_call 30; refine (within_f _ ?_).mono ?_; (focus omega); rintro e w1 ⟨rfl, rfl⟩))
            go_ret
            exact RB.f Hf.out Hx0.out
        · go_wp2_with (first | (go_at_call 30; refine (within_t _ ?_).mono ?_; (focus omega); rintro e w1 ⟨rfl, rfl⟩) | (go_at_call 30; refine (within_f _ ?_).mono ?_; (focus omega); rintro e w1 ⟨rfl, rfl⟩))
          go_ret
          exact RB.f Hf.out Hx0.out
set_option maxHeartbeats 1000000 in
theorem specRhythmOk_c (n : Int) (l : List Int) (v : Value) (w : World) (hv : Ints w v l) : Calls Tryz.prog 50 #[.agg #[.int .i64 n, v]] w (RB (RhyOk n l) w) := by
  have hlen := hv.len
  obtain ⟨A, c, rfl, hlc, hcm⟩ := hv.form0
  have hx0 := one_box w (.cells #[.int .i64 n, .slice A l.length c] 25)
  obtain ⟨_, _, _, _, _, hcell⟩ := hv.ext hx0
  have Hv := Lib.hid (hv.ext hx0)
  have Hx0 := Lib.hid hx0
  clear hv hcell hx0
  by_cases hn : 1 ≤ n ∧ n ≤ 24
  · go_enter Tryz.func50, Tryz.ntmps50
    go_wp2_with (first | (go_at_call 63; refine (l01In_t _ ?_).mono ?_; (focus omega); rintro e w1 ⟨rfl, rfl⟩) | (go_at_call 63; refine (l01In_f _ ?_).mono ?_; (focus omega); rintro e w1 ⟨rfl, rfl⟩))
    go_loop [12] (fun i => ∃ k : Nat, k ≤ l.length ∧ i = .int .i64 k ∧ Hid (RPre n l k)) (fun i => l.length - (intOf i).toNat)
    case atStart => exact ⟨0, Nat.zero_le _, rfl, RPre.zero _ _⟩
    case round =>
      obtain ⟨k, hk, rfl, hpre⟩ := hrel
      by_cases hkl : k < l.length
      · obtain ⟨ad, c', hA, _, _⟩ := Hv.out.form (by omega)
        obtain ⟨rfl, rfl⟩ : A = some ad ∧ c = c' := by simpa using hA
        obtain ⟨x, hx⟩ : ∃ x, l[k]? = some x := ⟨_, List.getElem?_eq_getElem (by omega)⟩
        have hc := Hv.out.cell hx
        have Hx := Lib.hid hx
        have hkl2 : (k : Int) < (l.length : Int) := by omega
        clear hx hA
        by_cases hxr : 0 ≤ x ∧ x ≤ n - 1
        · by_cases hk0 : k = 0
          · have hk0' : (k : Int) ≤ 0 := by omega
            have Hn : Hid (RPre n l (k + 1)) := hpre.out.succ Hx.out (by omega) (fun y h => by omega)
            clear hk0
            go_wp2_with (first | (go_at_call 63; refine (l01In_t _ ?_).mono ?_; (focus omega); rintro e w1 ⟨rfl, rfl⟩) | (go_at_call 63; refine (l01In_f _ ?_).mono ?_; (focus omega); rintro e w1 ⟨rfl, rfl⟩))
            go_round
            case rel => exact ⟨k + 1, by omega, by go_num, Hn⟩
            case measure => simp [intOf]; omega
          · have hk0' : (0 : Int) < k := by omega
            obtain ⟨y, hy⟩ : ∃ y, l[k - 1]? = some y := ⟨_, List.getElem?_eq_getElem (by omega)⟩
            have hc' := Hv.out.cell hy
            have Hy := Lib.hid hy
            clear hy hk0
            by_cases hxy : y < x
            · have Hn : Hid (RPre n l (k + 1)) := hpre.out.succ Hx.out (by omega) (fun z _ hz => by rw [Hy.out] at hz; cases hz; exact hxy)
              go_wp2_with (first | (go_at_call 63; refine (l01In_t _ ?_).mono ?_; (focus omega); rintro e w1 ⟨rfl, rfl⟩) | (go_at_call 63; refine (l01In_f _ ?_).mono ?_; (focus omega); rintro e w1 ⟨rfl, rfl⟩))
              go_round
              case rel => exact ⟨k + 1, by omega, by go_num, Hn⟩
              case measure => simp [intOf]; omega
            · have Hf : Hid (¬ RhyOk n l) := fun h => hxy (inc_adj h.2.1 (by omega) Hx.out Hy.out)
              have hxy' : x ≤ y := by omega
              go_wp2_with (first | (go_at_call 63; refine (l01In_t _ ?_).mono ?_; (focus omega); rintro e w1 ⟨rfl, rfl⟩) | (go_at_call 63; refine (l01In_f _ ?_).mono ?_; (focus omega); rintro e w1 ⟨rfl, rfl⟩))
              go_ret
              exact RB.f Hf.out Hx0.out
        · have Hf : Hid (¬ RhyOk n l) := fun h => hxr (by have := h.2.2 x (List.mem_of_getElem? Hx.out); omega)
          go_wp2_with (first | (go_at_call 63; refine (l01In_t _ ?_).mono ?_; (focus omega); rintro e w1 ⟨rfl, rfl⟩) | (go_at_call 63; refine (l01In_f _ ?_).mono ?_; (focus omega); rintro e w1 ⟨rfl, rfl⟩))
          go_ret
          exact RB.f Hf.out Hx0.out
      · have Ht : Hid (RhyOk n l) := ⟨hn, (hpre.out.all (by omega)).1, (hpre.out.all (by omega)).2⟩
        go_wp2_with (first | (go_at_call 63; refine (l01In_t _ ?_).mono ?_; (focus omega); rintro e w1 ⟨rfl, rfl⟩) | (go_at_call 63; refine (l01In_f _ ?_).mono ?_; (focus omega); rintro e w1 ⟨rfl, rfl⟩))
        go_ret
        exact RB.t Ht.out Hx0.out
  · have Hf : Hid (¬ RhyOk n l) := fun h => hn h.1
    go_enter Tryz.func50, Tryz.ntmps50
    go_wp2_with (first | (go_at_call 63; refine (l01In_t _ ?_).mono ?_; (focus omega); rintro e w1 ⟨rfl, rfl⟩) | (go_at_call 63; refine (l01In_f _ ?_).mono ?_; (focus omega); rintro e w1 ⟨rfl, rfl⟩))
    first
      | (go_ret; exact RB.f Hf.out Hx0.out)
      | skip
    all_goals
      go_loop [12] (fun i => ∃ k : Nat, k ≤ l.length ∧ i = .int .i64 k) (fun i => l.length - (intOf i).toNat)
      case atStart => exact ⟨0, Nat.zero_le _, rfl⟩
      case round =>
        obtain ⟨k, hk, rfl⟩ := hrel
        by_cases hkl : k < l.length
        · obtain ⟨ad, c', hA, _, _⟩ := Hv.out.form (by omega)
          obtain ⟨rfl, rfl⟩ : A = some ad ∧ c = c' := by simpa using hA
          obtain ⟨x, hx⟩ : ∃ x, l[k]? = some x := ⟨_, List.getElem?_eq_getElem (by omega)⟩
          have hc := Hv.out.cell hx
          have hkl2 : (k : Int) < (l.length : Int) := by omega
          obtain ⟨m, hm⟩ : ∃ m, IntKind.i64.wrap (n - 1) = m := ⟨_, rfl⟩
          clear hx hA hn
          by_cases hxr : 0 ≤ x ∧ x ≤ m
          · by_cases hk0 : k = 0
            · have hk0' : (k : Int) ≤ 0 := by omega
              clear hk0
              go_wp2_with (first | (go_at_call 63; refine (l01In_t _ ?_).mono ?_; (focus omega); rintro e w1 ⟨rfl, rfl⟩) | (go_at_call 63; refine (l01In_f _ ?_).mono ?_; (focus omega); rintro e w1 ⟨rfl, rfl⟩))
              go_round
              case rel => exact ⟨k + 1, by omega, by go_num⟩
              case measure => simp [intOf]; omega
            · have hk0' : (0 : Int) < k := by omega
              obtain ⟨y, hy⟩ : ∃ y, l[k - 1]? = some y := ⟨_, List.getElem?_eq_getElem (by omega)⟩
              have hc' := Hv.out.cell hy
              clear hy hk0
              by_cases hxy : y < x
              · go_wp2_with (first | (go_at_call 63; refine (l01In_t _ ?_).mono ?_; (focus omega); rintro e w1 ⟨rfl, rfl⟩) | (go_at_call 63; refine (l01In_f _ ?_).mono ?_; (focus omega); rintro e w1 ⟨rfl, rfl⟩))
                go_round
                case rel => exact ⟨k + 1, by omega, by go_num⟩
                case measure => simp [intOf]; omega
              · have hxy' : x ≤ y := by omega
                go_wp2_with (first | (go_at_call 63; refine (l01In_t _ ?_).mono ?_; (focus omega); rintro e w1 ⟨rfl, rfl⟩) | (go_at_call 63; refine (l01In_f _ ?_).mono ?_; (focus omega); rintro e w1 ⟨rfl, rfl⟩))
                go_ret
                exact RB.f Hf.out Hx0.out
          · go_wp2_with (first | (go_at_call 63; refine (l01In_t _ ?_).mono ?_; (focus omega); rintro e w1 ⟨rfl, rfl⟩) | (go_at_call 63; refine (l01In_f _ ?_).mono ?_; (focus omega); rintro e w1 ⟨rfl, rfl⟩))
            go_ret
            exact RB.f Hf.out Hx0.out
        · go_wp2_with (first | (go_at_call 63; refine (l01In_t _ ?_).mono ?_; (focus omega); rintro e w1 ⟨rfl, rfl⟩) | (go_at_call 63; refine (l01In_f _ ?_).mono ?_; (focus omega); rintro e w1 ⟨rfl, rfl⟩))
          go_ret
          exact RB.f Hf.out Hx0.out
end Go.Proofs.YtjecdmlojgmbeaaGreatDoor
