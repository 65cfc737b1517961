/- Contracts: FullPhases, ThinnestPhase, ThickestPhase on both sides. -/
import Derived.Test.YtknbnkfdkdhnkaaFpc
namespace Go.Proofs.Ytknbnkfdkdhnkaa
open Go.RowKit
/-- the phases with all beats -/
def flL (n : Int) (l : List Int) : List Int := eqUp n (pcL n l) (pcL n l).length
theorem flL_len (n : Int) (l : List Int) : (flL n l).length ≤ 1000000 := by
  have h1 := eqUp_len n (pcL n l) (pcL n l).length
  have h2 := pcL_len n l
  unfold flL; omega
theorem flL_f {n : Int} {l : List Int} (h : ¬ RhyOk n l) : flL n l = [] := by unfold flL; rw [pcL_f h]; rfl
def lowI (n : Int) (l : List Int) : Int := if RhyOk n l then lowUp (pcL n l) (pcL n l).length else -1
def highI (n : Int) (l : List Int) : Int := if RhyOk n l then highUp (pcL n l) (pcL n l).length else -1
theorem lowI_t {n : Int} {l : List Int} (h : RhyOk n l) : lowI n l = lowUp (pcL n l) (pcL n l).length := by unfold lowI; rw [if_pos h]
theorem lowI_f {n : Int} {l : List Int} (h : ¬ RhyOk n l) : lowI n l = -1 := by unfold lowI; rw [if_neg h]
theorem highI_t {n : Int} {l : List Int} (h : RhyOk n l) : highI n l = highUp (pcL n l) (pcL n l).length := by unfold highI; rw [if_pos h]
theorem highI_f {n : Int} {l : List Int} (h : ¬ RhyOk n l) : highI n l = -1 := by unfold highI; rw [if_neg h]
theorem phsL_elem {n : Int} {l : List Int} {j : Nat} {n4 : Int} {l4 : List Int} (h : (phsL n l)[j]? = some (n4, l4)) : l4.length ≤ 24 ∧ (pcL n l)[j]? = some (l4.length : Int) := by
  refine ⟨?_, cnts_get h⟩
  by_cases hro : RhyOk n l
  · obtain ⟨nn, rfl, _, hn24, _⟩ := hro.nat
    rw [phsL_t hro] at h
    have hjn : j < nn := by have := (List.getElem?_eq_some_iff.1 h).1; rw [phsN_len] at this; exact this
    rw [phsN_get l hjn] at h
    cases h
    have := phL_len (n := nn) l (j : Int); omega
  · rw [phsL_f hro] at h; simp at h
set_option maxRecDepth 100000 in
set_option maxHeartbeats 1000000 in
theorem fullPhases_c (n : Int) (l : List Int) (v : Value) (w : World) (hv : Ints w v l) : Calls Try.prog 38 #[.agg #[.int .i64 n, v]] w (RL (flL n l) w) := by
  obtain ⟨A, c, hve, _, _⟩ := hv.form0
  obtain ⟨m, hm⟩ : ∃ m, m = l.length := ⟨_, rfl⟩
  rw [← hm] at hve
  subst hve
  have hx := one_box w (.cells #[.int .i64 n, .slice A m c] 24)
  have ha := RVar.new (T := 24) w n (.slice A m c)
  have Hv := Lib.hid (hv.ext hx)
  have Hx := Lib.hid hx
  have Ra := Lib.hid ha
  clear hv hx hm ha
  have hc1 := Ra.out.c0
  have hc2 := Ra.out.c1
  have hpl := phsL_len n l
  go_enter Try.func38, Try.ntmps38
  go_wp2_with (first | (go_at_call 78; refine (phasesOf_c n l _ _ Hv.out).mono ?_; rintro e w3 ⟨v3, us, rfl, hR, hx3⟩; (obtain ⟨A3, c3, hv3, hn3, hm3⟩ := hR.form; have HR := Lib.hid hR; have Hul := Lib.hid hR.2.1; obtain ⟨q, hq⟩ : ∃ q, q = us.length := ⟨_, rfl⟩; rw [← hq] at hv3 hn3; have Hq := Lib.hid hq; have hq24 : q ≤ 24 := (by rw [hq, hR.2.1]; exact hpl); clear hR hq; subst hv3)))
  clear hc1 hc2
  go_loopw [3, 9] (fun o i wr => ∃ j : Nat, j ≤ q ∧ i = .int .i64 j ∧ Hid (Own wr w3.heap.size o (eqUp n (pcL n l) j) ∧ Ext w3 wr)) (fun _ i _ => q - (intOf i).toNat)
  case atStart => exact ⟨0, Nat.zero_le _, rfl, Own.nil _ _, Below.refl _ _⟩
  case round =>
    obtain ⟨j, hj, rfl, hr⟩ := hrel
    by_cases hjq : j < q
    · obtain ⟨g, cc, n4, A4, m4, c4, l4, he, hget, hm4, h1, h2, ho4⟩ := (HR.out.ext hr.out.2).elem (k := j) (by rw [← Hq.out]; exact hjq)
      obtain ⟨rfl, rfl⟩ : A3 = some ⟨g, 0, none⟩ ∧ c3 = cc := by simp only [Value.slice.injEq] at he; exact ⟨he.1, he.2.2⟩
      obtain ⟨h24, hpc⟩ := phsL_elem hget
      have hm4b : m4 ≤ 1000000 := by omega
      rw [← hm4] at hpc
      have hjq2 : (j : Int) < (q : Int) := by omega
      have hol := eqUp_len n (pcL n l) j
      have hsz := hr.out.2.size
      have hd1 := ((Ra.out.ext (hx3.tr hr.out.2)).ext (one_box wr (.cells #[.int .i64 n4, .slice A4 m4 c4] 24))).c0
      by_cases hmn : (m4 : Int) = n
      · have hb : ((m4 : Int) == n) = true := by simp [hmn]
        have Hn := Lib.hid (eqUp_t (n := n) (by rw [hpc, hmn]))
        clear hget hm4 he hpc hmn
        go_wp2_with (first | (at_builtin; refine wp_append1s (wr := wr.alloc (.cells #[.int .i64 n4, .slice A4 m4 c4] 24)) (World.size_alloc _ _).symm rfl (.tmp 20) (.tmp 22) rfl rfl rfl (hr.out.1.ext (one_box wr (.cells #[.int .i64 n4, .slice A4 m4 c4] 24))) (by unfold I64; omega) (by omega) (by simp only [World.size_alloc]; omega) ?_; intro v' w' ho hg hb hat))
        go_roundw
        case rel => exact ⟨j + 1, by omega, by go_num, by rw [Hn.out]; exact ho, hr.out.2.trans (((one_box _ _).mono hsz).trans (by assumption))⟩
        case measure => simp [intOf]; omega
      · have hb : ((m4 : Int) == n) = false := by simpa using hmn
        have Hn := Lib.hid (eqUp_f (n := n) hpc hmn)
        clear hget hm4 he hpc hmn
        go_wp2
        go_roundw
        case rel => exact ⟨j + 1, by omega, by go_num, by rw [Hn.out]; exact hr.out.1.ext (one_box _ _), hr.out.2.trans ((one_box _ _).mono hsz)⟩
        case measure => simp [intOf]; omega
    · obtain rfl : j = q := by omega
      have hl : Hid ((pcL n l).length = j) := by unfold Hid pcL; rw [cnts_len, ← Hul.out, ← Hq.out]
      go_wp2
      go_ret
      have h1 := hr.out.1
      exact ⟨_, rfl, by unfold flL; rw [hl.out]; exact h1.base (by have := (Hx.out.tr hx3).size; exact this), Hx.out.tr (hx3.tr hr.out.2)⟩
set_option maxRecDepth 100000 in
set_option maxHeartbeats 1000000 in
theorem specFullPhases_c (n : Int) (l : List Int) (v : Value) (w : World) (hv : Ints w v l) : Calls Try.prog 37 #[.agg #[.int .i64 n, v]] w (RL (flL n l) w) := by
  obtain ⟨A, c, hve, _, _⟩ := hv.form0
  obtain ⟨m, hm⟩ : ∃ m, m = l.length := ⟨_, rfl⟩
  rw [← hm] at hve
  subst hve
  have hx := one_box w (.cells #[.int .i64 n, .slice A m c] 24)
  have ha := RVar.new (T := 24) w n (.slice A m c)
  have Hv := Lib.hid (hv.ext hx)
  have Hx := Lib.hid hx
  have Ra := Lib.hid ha
  clear hv hx hm ha
  by_cases hr : RhyOk n l
  · have Hro := Lib.hid hr
    have hpl := pcL_len n l
    clear hr
    go_enter Try.func37, Try.ntmps37
    go_wp2_with (first | (go_at_call 76; refine (specRhythmOk_c n l _ _ Hv.out).mono ?_; rintro e w3 ⟨b3, rfl, hb3, hx3⟩; obtain rfl := hb3.2 Hro.out; clear hb3; have hc1 := ((Ra.out.ext hx3).ext (one_box w3 (.cells #[] 3))).c0; have hc2 := ((Ra.out.ext hx3).ext (one_box w3 (.cells #[] 3))).c1) | (go_at_call 35; refine (specPhaseCounts_c n l _ _ ((Hv.out.ext hx3).ext (one_box w3 (.cells #[] 3)))).mono ?_; rintro e w4 ⟨v4, rfl, ho4, hx4⟩; (obtain ⟨A4, c4, hv4, hn4, hm4⟩ := ho4.slice; have Ho4 := Lib.hid ho4; obtain ⟨q, hq⟩ : ∃ q, q = (pcL n l).length := ⟨_, rfl⟩; rw [← hq] at hv4 hn4 hpl; have Hq := Lib.hid hq; clear hq; subst hv4; clear ho4)))
    clear hc1 hc2
    go_loopw [3, 13] (fun o i wr => ∃ j : Nat, j ≤ q ∧ i = .int .i64 j ∧ Hid (Own wr w3.heap.size o (eqUp n (pcL n l) j) ∧ Own wr (w3.alloc (.cells #[] 3)).heap.size (.slice A4 q c4) (pcL n l) ∧ Apart (.slice A4 q c4) o ∧ Ext w3 wr)) (fun _ i _ => q - (intOf i).toNat)
    case atStart => exact ⟨0, Nat.zero_le _, rfl, (Own.empty (Nat.le_refl _)).ext hx4, Ho4.out, Own.apart' (Own.empty (Nat.le_refl _)) Ho4.out, (one_box _ _).tr hx4⟩
    case round =>
      obtain ⟨j, hj, rfl, hrel⟩ := hrel
      have hc1 := (Ra.out.ext (hx3.tr hrel.out.2.2.2)).c0
      have hc2 := (Ra.out.ext (hx3.tr hrel.out.2.2.2)).c1
      by_cases hjq : j < q
      · have hpc := get_of_lt (l := pcL n l) (k := j) (by rw [← Hq.out]; exact hjq)
        obtain ⟨x, hx⟩ : ∃ x, (pcL n l)[j]? = some x := ⟨_, hpc⟩
        obtain ⟨g, cc, he, _, _, _, hcell, _⟩ := hrel.out.2.1.shape (by rw [← Hq.out]; omega)
        obtain ⟨rfl, rfl⟩ : A4 = some ⟨g, 0, none⟩ ∧ c4 = cc := by simp only [Value.slice.injEq] at he; exact ⟨he.1, he.2.2⟩
        have hcx := hcell j x hx
        have hjq2 : (j : Int) < (q : Int) := by omega
        have hol := eqUp_len n (pcL n l) j
        have hsz := hrel.out.2.2.2.size
        by_cases hmn : x = n
        · have hb : ((x : Int) == n) = true := by simp [hmn]
          have Hn := Lib.hid (eqUp_t (n := n) (by rw [hx, hmn]))
          clear hpc hcell he hmn hx
          go_wp2_with (first | (at_builtin; refine wp_append1 rfl (.tmp 22) (.tmp 24) rfl rfl rfl hrel.out.1 (by unfold I64; omega) (by omega) hsz ?_; intro v' w' ho hg hb hat))
          go_roundw
          case rel => exact ⟨j + 1, by omega, by go_num, by rw [Hn.out]; exact ho, hrel.out.2.1.kept hg hrel.out.2.2.1, hrel.out.2.2.1.later (fun k hk => (hrel.out.2.1.lt k hk).2) hat, hrel.out.2.2.2.trans (by assumption)⟩
          case measure => simp [intOf]; omega
        · have hb : ((x : Int) == n) = false := by simpa using hmn
          have Hn := Lib.hid (eqUp_f (n := n) hx hmn)
          clear hpc hcell he hmn hx
          go_wp2
          go_roundw
          case rel => exact ⟨j + 1, by omega, by go_num, by rw [Hn.out]; exact hrel.out.1, hrel.out.2.1, hrel.out.2.2.1, hrel.out.2.2.2⟩
          case measure => simp [intOf]; omega
      · obtain rfl : j = q := by omega
        go_wp2
        go_ret
        have h1 := hrel.out.1
        exact ⟨_, rfl, by unfold flL; rw [← Hq.out]; exact h1.base (by have := (Hx.out.tr hx3).size; exact this), Hx.out.tr (hx3.tr hrel.out.2.2.2)⟩
  · have Hro := Lib.hid hr
    have Hp := Lib.hid (flL_f hr)
    clear hr
    go_enter Try.func37, Try.ntmps37
    go_wp2_with (first | (go_at_call 76; refine (specRhythmOk_c n l _ _ Hv.out).mono ?_; rintro e w3 ⟨b3, rfl, hb3, hx3⟩; obtain rfl := bool_f hb3 Hro.out; clear hb3))
    go_ret
    exact ⟨_, rfl, by rw [Hp.out]; exact Own.nil _ _, Hx.out.tr hx3⟩
end Go.Proofs.Ytknbnkfdkdhnkaa
