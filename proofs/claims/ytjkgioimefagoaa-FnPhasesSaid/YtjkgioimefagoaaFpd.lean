/- Contracts: FullPhases, ThinnestPhase, ThickestPhase on both sides. -/
import Derived.Test.YtjkgioimefagoaaFpc
namespace Go.Proofs.Ytjkgioimefagoaa
open Go.RowKit
/-- the phases with all beats -/
def flL (n : Int) (l : List Int) : List Int := eqUp n (pcL n l) (pcL n l).length
theorem flL_len (n : Int) (l : List Int) : (flL n l).length ≤ 1000000 := by
  have h1 := eqUp_len n (pcL n l) (pcL n l).length
  have h2 := pcL_len n l
  unfold flL; omega
theorem flL_f {n : Int} {l : List Int} (h : ¬ RhyOk n l) : flL n l = [] := by unfold flL; rw [pcL_f h]; rfl
def lowI (n : Int) (l : List Int) : Int := if RhyOk n l then lowUp (pcL n l) (pcL n l).length else -1
def highI (n : Int) (l : List Int) : Int := if RhyOk n l then highUp (pcL n l) (pcL n l).length else -1
theorem lowI_t {n : Int} {l : List Int} (h : RhyOk n l) : lowI n l = lowUp (pcL n l) (pcL n l).length := by unfold lowI; rw [if_pos h]
theorem lowI_f {n : Int} {l : List Int} (h : ¬ RhyOk n l) : lowI n l = -1 := by unfold lowI; rw [if_neg h]
theorem highI_t {n : Int} {l : List Int} (h : RhyOk n l) : highI n l = highUp (pcL n l) (pcL n l).length := by unfold highI; rw [if_pos h]
theorem highI_f {n : Int} {l : List Int} (h : ¬ RhyOk n l) : highI n l = -1 := by unfold highI; rw [if_neg h]
theorem phsL_elem {n : Int} {l : List Int} {j : Nat} {n4 : Int} {l4 : List Int} (h : (phsL n l)[j]? = some (n4, l4)) : l4.length ≤ 24 ∧ (pcL n l)[j]? = some (l4.length : Int) := by
  refine ⟨?_, cnts_get h⟩
  by_cases hro : RhyOk n l
  · obtain ⟨nn, rfl, _, hn24, _⟩ := hro.nat
    rw [phsL_t hro] at h
    have hjn : j < nn := by have := (List.getElem?_eq_some_iff.1 h).1; rw [phsN_len] at this; exact this
    rw [phsN_get l hjn] at h
    cases h
    have := phL_len (n := nn) l (j : Int); omega
  · rw [phsL_f hro] at h; simp at h
set_option maxRecDepth 100000 in
set_option maxHeartbeats 1000000 in
theorem fullPhases_c (n : Int) (l : List Int) (v : Value) (w : World) (hv : Ints w v l) : Calls Try.prog 8 #[.agg #[.int .i64 n, v]] w (RL (flL n l) w) := by
  obtain ⟨A, c, hve, _, _⟩ := hv.form0
  obtain ⟨m, hm⟩ : ∃ m, m = l.length := ⟨_, rfl⟩
  rw [← hm] at hve
  subst hve
  have hx := one_box w (.cells #[.int .i64 n, .slice A m c] 25)
  have ha := RVar.new (T := 25) w n (.slice A m c)
  have Hv := Lib.hid (hv.ext hx)
  have Hx := Lib.hid hx
  have Ra := Lib.hid ha
  clear hv hx hm ha
  have hc1 := Ra.out.c0
  have hc2 := Ra.out.c1
  have hpl := phsL_len n l
  go_enter Try.func8, Try.ntmps8
  go_wp2_with (first | (go_at_call 20; refine (phasesOf_c n l _ _ Hv.out).mono ?_; rintro e w3 ⟨v3, us, rfl, hR, hx3⟩; (obtain ⟨A3, c3, hv3, hn3, hm3⟩ := hR.form; have HR := Lib.hid hR; have Hul := Lib.hid hR.2.1; obtain ⟨q, hq⟩ : ∃ q, q = us.length := ⟨_, rfl⟩; rw [← hq] at hv3 hn3; have Hq := Lib.hid hq; have hq24 : q ≤ 24 := (by rw [hq, hR.2.1]; exact hpl); clear hR hq; subst hv3)))
  clear hc1 hc2
  go_loopw [3, 9] (fun o i wr => ∃ j : Nat, j ≤ q ∧ i = .int .i64 j ∧ Hid (Own wr w3.heap.size o (eqUp n (pcL n l) j) ∧ Ext w3 wr)) (fun _ i _ => q - (intOf i).toNat)
  case atStart => exact ⟨0, Nat.zero_le _, rfl, Own.nil _ _, Below.refl _ _⟩
  case round =>
    obtain ⟨j, hj, rfl, hr⟩ := hrel
    by_cases hjq : j < q
    · obtain ⟨g, cc, n4, A4, m4, c4, l4, he, hget, hm4, h1, h2, ho4⟩ := (HR.out.ext hr.out.2).elem (k := j) (by rw [← Hq.out]; exact hjq)
      obtain ⟨rfl, rfl⟩ : A3 = some ⟨g, 0, none⟩ ∧ c3 = cc := by simp only [Value.slice.injEq] at he; exact ⟨he.1, he.2.2⟩
      obtain ⟨h24, hpc⟩ := phsL_elem hget
      have hm4b : m4 ≤ 1000000 := by omega
      rw [← hm4] at hpc
      have hjq2 : (j : Int) < (q : Int) := by omega
      have hol := eqUp_len n (pcL n l) j
      have hsz := hr.out.2.size
      have hd1 := ((Ra.out.ext (hx3.tr hr.out.2)).ext (one_box wr (.cells #[.int .i64 n4, .slice A4 m4 c4] 25))).c0
      by_cases hmn : (m4 : Int) = n
      · have hb : ((m4 : Int) == n) = true := by simp [hmn]
        have Hn := Lib.hid (eqUp_t (n := n) (by rw [hpc, hmn]))
        clear hget hm4 he hpc hmn
        go_wp2_with (first | (at_builtin; refine wp_append1s (wr := wr.alloc (.cells #[.int .i64 n4, .slice A4 m4 c4] 25)) (World.size_alloc _ _).symm rfl (.tmp 20) (.tmp 22) rfl rfl rfl (hr.out.1.ext (one_box wr (.cells #[.int .i64 n4, .slice A4 m4 c4] 25))) (by unfold I64; omega) (by omega) (by simp only [World.size_alloc]; omega) ?_; intro v' w' ho hg hb hat))
        go_roundw
        case rel => exact ⟨j + 1, by omega, by go_num, by rw [Hn.out]; exact ho, hr.out.2.trans (((one_box _ _).mono hsz).trans (by assumption))⟩
        case measure => simp [intOf]; omega
      · have hb : ((m4 : Int) == n) = false := by simpa using hmn
        have Hn := Lib.hid (eqUp_f (n := n) hpc hmn)
        clear hget hm4 he hpc hmn
        go_wp2
        go_roundw
        case rel => exact ⟨j + 1, by omega, by go_num, by rw [Hn.out]; exact hr.out.1.ext (one_box _ _), hr.out.2.trans ((one_box _ _).mono hsz)⟩
        case measure => simp [intOf]; omega
    · obtain rfl : j = q := by omega
      have hl : Hid ((pcL n l).length = j) := by unfold Hid pcL; rw [cnts_len, ← Hul.out, ← Hq.out]
      go_wp2
      go_ret
      have h1 := hr.out.1
      exact ⟨_, rfl, by unfold flL; rw [hl.out]; exact h1.base (by have := (Hx.out.tr hx3).size; exact this), Hx.out.tr (hx3.tr hr.out.2)⟩
end Go.Proofs.Ytjkgioimefagoaa
