/- Contracts of small functions: within, l01In, gcd, l02Gcd, PatternOk. -/
import Derived.Test.YtpnbcgnbkanebaaDoorMem
namespace Go.Proofs.YtpnbcgnbkanebaaDoor
open Go.RowKit

theorem within_t {n lo hi : Int} (w : World) (h : lo ≤ n ∧ n ≤ hi) : Calls Tryd.prog 27 #[.int .i64 n, .int .i64 lo, .int .i64 hi] w fun e w' => e = .returned (.bool true) ∧ w = w' := by
  obtain ⟨h1, h2⟩ := h
  go_enter Tryd.func27, Tryd.ntmps27
  go_wp2
  go_ret
  exact ⟨rfl, rfl⟩
theorem within_f {n lo hi : Int} (w : World) (h : ¬ (lo ≤ n ∧ n ≤ hi)) : Calls Tryd.prog 27 #[.int .i64 n, .int .i64 lo, .int .i64 hi] w fun e w' => e = .returned (.bool false) ∧ w = w' := by
  by_cases h1 : lo ≤ n
  · have h2 : ¬ n ≤ hi := fun h2 => h ⟨h1, h2⟩
    have h3 : decide (n ≤ hi) = false := by simpa using h2
    clear h
    go_enter Tryd.func27, Tryd.ntmps27
    go_wp2
    go_ret
    exact ⟨rfl, rfl⟩
  · clear h
    go_enter Tryd.func27, Tryd.ntmps27
    go_wp2
    go_ret
    exact ⟨rfl, rfl⟩
theorem l01In_t {n lo hi : Int} (w : World) (h : lo ≤ n ∧ n ≤ hi) : Calls Tryd.prog 24 #[.int .i64 n, .int .i64 lo, .int .i64 hi] w fun e w' => e = .returned (.bool true) ∧ w = w' := by
  obtain ⟨h1, h2⟩ := h
  go_enter Tryd.func24, Tryd.ntmps24
  go_wp2
  go_ret
  exact ⟨rfl, rfl⟩
theorem l01In_f {n lo hi : Int} (w : World) (h : ¬ (lo ≤ n ∧ n ≤ hi)) : Calls Tryd.prog 24 #[.int .i64 n, .int .i64 lo, .int .i64 hi] w fun e w' => e = .returned (.bool false) ∧ w = w' := by
  by_cases h1 : lo ≤ n
  · have h2 : ¬ n ≤ hi := fun h2 => h ⟨h1, h2⟩
    have h3 : decide (n ≤ hi) = false := by simpa using h2
    clear h
    go_enter Tryd.func24, Tryd.ntmps24
    go_wp2
    go_ret
    exact ⟨rfl, rfl⟩
  · clear h
    go_enter Tryd.func24, Tryd.ntmps24
    go_wp2
    go_ret
    exact ⟨rfl, rfl⟩

theorem patternOk_c (l : List Int) (v : Value) (w : World) (hv : Ints w v l) : Calls Tryd.prog 26 #[v] w (RBs (PatOk l) w) := by
  have hlen := hv.len
  obtain ⟨A, c, rfl, hlc, hcm, hcell⟩ := hv
  have Hcell := Lib.hid hcell
  clear hcell
  go_enter Tryd.func26, Tryd.ntmps26
  go_wp2
  go_loop [7] (fun i => ∃ k : Nat, k ≤ l.length ∧ i = .int .i64 k ∧ Hid (AscN 0 12 l k ∧ (0 < k → l[0]? = some 0))) (fun i => l.length - (intOf i).toNat)
  case atStart => exact ⟨0, Nat.zero_le _, rfl, AscN.zero _ _ _, fun h => absurd h (by omega)⟩
  case round =>
    obtain ⟨k, hk, rfl, hasc⟩ := hrel
    rcases hx : l[k]? with _ | x
    · have hkl : l.length = k := by have := List.getElem?_eq_none_iff.1 hx; omega
      have Hkl := Lib.hid hkl
      have h1 : l.length ≤ k := by omega
      clear hkl hx
      by_cases h0 : 0 < l.length
      · go_wp2
        go_ret
        have e := Hkl.out
        exact RBs.t ⟨h0, hasc.out.2 (by omega), by unfold Asc; rw [e]; exact hasc.out.1⟩
      · go_wp2
        go_ret
        exact RBs.f fun h => h0 h.1
    · obtain ⟨hxr, ad, hA, hc⟩ := Hcell.out k x hx
      have hkl : k < l.length := (List.getElem?_eq_some_iff.1 hx).1
      have Hx := Lib.hid hx
      subst hA
      clear hx
      have hne : 0 < l.length := by omega
      by_cases h12 : 0 ≤ x ∧ x ≤ 12
      · by_cases hk0 : k = 0
        · have hb0 : ((k : Int) == 0) = true := by simp [hk0]
          have hk0' : (k : Int) ≤ 0 := by omega
          have Hk0 := Lib.hid hk0
          clear hk0
          by_cases hx0 : x = 0
          · have hp : AscAt 0 12 l k x := ⟨h12.1, h12.2, fun _ h => absurd h (by omega)⟩
            have Hn : Hid (AscN 0 12 l (k + 1) ∧ (0 < k + 1 → l[0]? = some 0)) := ⟨hasc.out.1.succ Hx.out hp, fun _ => by have := Hx.out; rw [Hk0.out, hx0] at this; exact this⟩
            have hbx : ((x : Int) != 0) = false := by simp [hx0]
            clear hx0
            go_wp2_with (first | (go_at_call 27; refine (within_t _ ?_).mono ?_; (focus omega); rintro e w1 ⟨rfl, rfl⟩) | (go_at_call 27; refine (within_f _ ?_).mono ?_; (focus omega); rintro e w1 ⟨rfl, rfl⟩))
            go_round
            case rel => exact ⟨k + 1, by omega, by go_num, Hn⟩
            case measure => simp [intOf]; omega
          · have hb : ((x : Int) != 0) = true := by rw [bne_iff_ne]; omega
            have Hf : Hid (¬ PatOk l) := fun h => hx0 (by have := h.2.1; rw [← Hk0.out, Hx.out] at this; simpa using this)
            clear hx0
            go_wp2_with (first | (go_at_call 27; refine (within_t _ ?_).mono ?_; (focus omega); rintro e w1 ⟨rfl, rfl⟩) | (go_at_call 27; refine (within_f _ ?_).mono ?_; (focus omega); rintro e w1 ⟨rfl, rfl⟩))
            go_ret
            exact RBs.f Hf.out
        · have hb0 : ((k : Int) == 0) = false := by simp; omega
          have hk0' : (0 : Int) < k := by omega
          obtain ⟨y, hy⟩ : ∃ y, l[k - 1]? = some y := ⟨_, List.getElem?_eq_getElem (by omega)⟩
          obtain ⟨hyr, ad', hA', hc'⟩ := Hcell.out (k - 1) y hy
          cases hA'
          have Hy := Lib.hid hy
          clear hy hk0
          by_cases hxy : y < x
          · have hp : AscAt 0 12 l k x := ⟨h12.1, h12.2, fun z _ hz => by rw [Hy.out] at hz; cases hz; exact hxy⟩
            have Hn : Hid (AscN 0 12 l (k + 1) ∧ (0 < k + 1 → l[0]? = some 0)) := ⟨hasc.out.1.succ Hx.out hp, fun _ => hasc.out.2 (by omega)⟩
            go_wp2_with (first | (go_at_call 27; refine (within_t _ ?_).mono ?_; (focus omega); rintro e w1 ⟨rfl, rfl⟩) | (go_at_call 27; refine (within_f _ ?_).mono ?_; (focus omega); rintro e w1 ⟨rfl, rfl⟩))
            go_round
            case rel => exact ⟨k + 1, by omega, by go_num, Hn⟩
            case measure => simp [intOf]; omega
          · have Hf : Hid (¬ PatOk l) := fun h => hxy ((h.2.2 k x hkl Hx.out).2.2 y (by omega) Hy.out)
            have hxy' : x ≤ y := by omega
            go_wp2_with (first | (go_at_call 27; refine (within_t _ ?_).mono ?_; (focus omega); rintro e w1 ⟨rfl, rfl⟩) | (go_at_call 27; refine (within_f _ ?_).mono ?_; (focus omega); rintro e w1 ⟨rfl, rfl⟩))
            go_ret
            exact RBs.f Hf.out
      · have Hf : Hid (¬ PatOk l) := fun h => h12 ⟨(h.2.2 k x hkl Hx.out).1, (h.2.2 k x hkl Hx.out).2.1⟩
        go_wp2_with (first | (go_at_call 27; refine (within_t _ ?_).mono ?_; (focus omega); rintro e w1 ⟨rfl, rfl⟩) | (go_at_call 27; refine (within_f _ ?_).mono ?_; (focus omega); rintro e w1 ⟨rfl, rfl⟩))
        go_ret
        exact RBs.f Hf.out

theorem PatOk.of_asc {l : List Int} (h0 : 0 < l.length) (hz : l[0]? = some 0) (h : AscN 0 12 l l.length) : PatOk l := ⟨h0, hz, h⟩

theorem specPatternOk_c (l : List Int) (v : Value) (w : World) (hv : Ints w v l) : Calls Tryd.prog 23 #[v] w (RBs (PatOk l) w) := by
  have hlen := hv.len
  obtain ⟨A, c, rfl, hlc, hcm, hcell⟩ := hv
  have Hcell := Lib.hid hcell
  clear hcell
  by_cases hl0 : l.length = 0
  · have hb : ((l.length : Int) == 0) = true := by simp [hl0]
    have Hf : Hid (¬ PatOk l) := fun h => absurd h.1 (by rw [hl0]; exact Nat.lt_irrefl 0)
    clear hl0
    go_enter Tryd.func23, Tryd.ntmps23
    go_wp2
    go_ret
    exact RBs.f Hf.out
  have hb : ((l.length : Int) == 0) = false := by rw [beq_eq_false_iff_ne]; omega
  obtain ⟨x0, hx0⟩ : ∃ y, l[0]? = some y := ⟨_, List.getElem?_eq_getElem (by omega)⟩
  obtain ⟨_, ad, hA, hc0⟩ := Hcell.out 0 x0 hx0
  have hc00 : w.cell? ad = some (.int .i64 x0) := by simpa [Addr.add] using hc0
  subst hA
  have hl1 : 0 < l.length := by omega
  have hl1' : (0 : Int) < (l.length : Int) := by omega
  have Hx0 := Lib.hid hx0
  clear hx0 hl0 hc0
  by_cases hz : x0 = 0
  · have hbz : ((x0 : Int) != 0) = false := by simp [hz]
    have Hz := Lib.hid hz
    clear hz
    go_enter Tryd.func23, Tryd.ntmps23
    go_wp2
    go_loop [16] (fun i => ∃ k : Nat, k ≤ l.length ∧ i = .int .i64 k ∧ Hid (AscN 0 12 l k)) (fun i => l.length - (intOf i).toNat)
    case atStart => exact ⟨0, Nat.zero_le _, rfl, AscN.zero _ _ _⟩
    case round =>
      obtain ⟨k, hk, rfl, hasc⟩ := hrel
      clear hc00
      rcases hx : l[k]? with _ | x
      · have hkl : l.length = k := by have := List.getElem?_eq_none_iff.1 hx; omega
        have Hkl := Lib.hid hkl
        have h1 : l.length ≤ k := by omega
        clear hkl hx
        go_wp2
        go_ret
        have e := Hkl.out
        exact RBs.t ⟨hl1, by rw [Hx0.out, Hz.out], by unfold Asc; rw [e]; exact hasc.out⟩
      · obtain ⟨hxr, ad1, hA1, hc⟩ := Hcell.out k x hx
        cases hA1
        have hkl : k < l.length := (List.getElem?_eq_some_iff.1 hx).1
        have Hx := Lib.hid hx
        clear hx
        by_cases h12 : 0 ≤ x ∧ x ≤ 12
        · by_cases hk0 : k = 0
          · have hk0' : (k : Int) ≤ 0 := by omega
            have hp : AscAt 0 12 l k x := ⟨h12.1, h12.2, fun _ h => absurd h (by omega)⟩
            have Hn : Hid (AscN 0 12 l (k + 1)) := hasc.out.succ Hx.out hp
            clear hk0
            go_wp2_with (first | (go_at_call 24; refine (l01In_t _ ?_).mono ?_; (focus omega); rintro e w1 ⟨rfl, rfl⟩) | (go_at_call 24; refine (l01In_f _ ?_).mono ?_; (focus omega); rintro e w1 ⟨rfl, rfl⟩))
            go_round
            case rel => exact ⟨k + 1, by omega, by go_num, Hn⟩
            case measure => simp [intOf]; omega
          · have hk0' : (0 : Int) < k := by omega
            obtain ⟨y, hy⟩ : ∃ y, l[k - 1]? = some y := ⟨_, List.getElem?_eq_getElem (by omega)⟩
            obtain ⟨hyr, ad', hA', hc'⟩ := Hcell.out (k - 1) y hy
            cases hA'
            have Hy := Lib.hid hy
            clear hy hk0
            by_cases hxy : y < x
            · have hp : AscAt 0 12 l k x := ⟨h12.1, h12.2, fun z _ hz => by rw [Hy.out] at hz; cases hz; exact hxy⟩
              have Hn : Hid (AscN 0 12 l (k + 1)) := hasc.out.succ Hx.out hp
              go_wp2_with (first | (go_at_call 24; refine (l01In_t _ ?_).mono ?_; (focus omega); rintro e w1 ⟨rfl, rfl⟩) | (go_at_call 24; refine (l01In_f _ ?_).mono ?_; (focus omega); rintro e w1 ⟨rfl, rfl⟩))
              go_round
              case rel => exact ⟨k + 1, by omega, by go_num, Hn⟩
              case measure => simp [intOf]; omega
            · have Hf : Hid (¬ PatOk l) := fun h => hxy ((h.2.2 k x hkl Hx.out).2.2 y (by omega) Hy.out)
              have hxy' : x ≤ y := by omega
              go_wp2_with (first | (go_at_call 24; refine (l01In_t _ ?_).mono ?_; (focus omega); rintro e w1 ⟨rfl, rfl⟩) | (go_at_call 24; refine (l01In_f _ ?_).mono ?_; (focus omega); rintro e w1 ⟨rfl, rfl⟩))
              go_ret
              exact RBs.f Hf.out
        · have Hf : Hid (¬ PatOk l) := fun h => h12 ⟨(h.2.2 k x hkl Hx.out).1, (h.2.2 k x hkl Hx.out).2.1⟩
          go_wp2_with (first | (go_at_call 24; refine (l01In_t _ ?_).mono ?_; (focus omega); rintro e w1 ⟨rfl, rfl⟩) | (go_at_call 24; refine (l01In_f _ ?_).mono ?_; (focus omega); rintro e w1 ⟨rfl, rfl⟩))
          go_ret
          exact RBs.f Hf.out
  · have hbz : ((x0 : Int) != 0) = true := by simp [hz]
    have Hf : Hid (¬ PatOk l) := fun h => hz (by have := h.2.1; rw [Hx0.out] at this; simpa using this)
    clear hz
    go_enter Tryd.func23, Tryd.ntmps23
    go_wp2
    go_ret
    exact RBs.f Hf.out
end Go.Proofs.YtpnbcgnbkanebaaDoor
