/- Contracts: phasesOf; PhaseCounts on both sides. -/
import Derived.Test.YtjkgioimefagoaaFpha
import Derived.Test.YtjkgioimefagoaaRhs
namespace Go.Proofs.Ytjkgioimefagoaa
open Go.RowKit
/-- the phases of a rhythm, by the number of pulses -/
def phsN (n : Nat) (l : List Int) : List (Int × List Int) := (List.range n).map fun (k : Nat) => ((n : Int), phL n l k)
def phsL (n : Int) (l : List Int) : List (Int × List Int) := if RhyOk n l then phsN n.toNat l else []
theorem phsN_len (n : Nat) (l : List Int) : (phsN n l).length = n := by simp [phsN]
theorem phsN_get {n k : Nat} (l : List Int) (h : k < n) : (phsN n l)[k]? = some ((n : Int), phL n l k) := by simp [phsN, h]
theorem phsL_t {n : Nat} {l : List Int} (h : RhyOk n l) : phsL n l = phsN n l := by unfold phsL; rw [if_pos h]; simp
theorem phsL_f {n : Int} {l : List Int} (h : ¬ RhyOk n l) : phsL n l = [] := by unfold phsL; rw [if_neg h]
set_option maxRecDepth 100000 in
set_option maxHeartbeats 1000000 in
theorem phasesOf_c (n : Int) (l : List Int) (v : Value) (w : World) (hv : Ints w v l) : Calls Try.prog 20 #[.agg #[.int .i64 n, v]] w (RRs (phsL n l) w) := by
  obtain ⟨A, c, hve, _, _⟩ := hv.form0
  obtain ⟨m, hm⟩ : ∃ m, m = l.length := ⟨_, rfl⟩
  rw [← hm] at hve
  subst hve
  have hx := one_box w (.cells #[.int .i64 n, .slice A m c] 25)
  have ha := RVar.new (T := 25) w n (.slice A m c)
  have Hv := Lib.hid (hv.ext hx)
  have Hx := Lib.hid hx
  have Ra := Lib.hid ha
  clear hv hx hm ha
  by_cases hr : RhyOk n l
  · obtain ⟨nn, rfl, hn1, hn24, hlen, hl⟩ := hr.nat
    have Hro := Lib.hid hr
    have Hphs := Lib.hid (phsL_t hr)
    have Hl := Lib.hid hl
    have Hlen := Lib.hid hlen
    clear hr hl hlen
    go_enter Try.func20, Try.ntmps20
    go_wp2_with (first | (go_at_call 21; refine (rhythmOk_c (nn : Int) l _ _ Hv.out).mono ?_; rintro e w3 ⟨b3, rfl, hb3, hx3⟩; obtain rfl := hb3.2 Hro.out; clear hb3; have hc1 := (Ra.out.ext hx3).c0; have hc2 := (Ra.out.ext hx3).c1))
    go_loopw [3, 10] (fun o i wr => ∃ (j : Nat) (us : List (Int × Value)), j ≤ nn ∧ i = .int .i64 j ∧ Hid (Rhs wr (w.heap.size + 1) o us ((phsN nn l).take j) ∧ Ext (w.alloc (.cells #[.int .i64 nn, .slice A m c] 25)) wr)) (fun _ i _ => nn - (intOf i).toNat)
    case atStart => exact ⟨0, [], Nat.zero_le _, rfl, Rhs.nil _ _, hx3⟩
    case round =>
      clear hc1 hc2
      obtain ⟨j, us, hj, rfl, hrel⟩ := hrel
      have hc1 := (Ra.out.ext hrel.out.2).c0
      have hc2 := (Ra.out.ext hrel.out.2).c1
      by_cases hjn : j < nn
      · have hjn2 : (j : Int) < (nn : Int) := by omega
        have Hn := Lib.hid (takeS (phsN_get l hjn))
        have hul : us.length ≤ 1000000 := by
          have h1 := hrel.out.1.2.1
          have h2 := List.length_take_le j (phsN nn l)
          omega
        have hsz : w.heap.size + 1 ≤ wr.heap.size := by have := hrel.out.2.size; simp only [World.size_alloc] at this; exact this
        go_wp2_with (first | (go_at_call 24; refine (phase_c nn l (j : Int) _ _ (Hv.out.ext hrel.out.2) ⟨hn1, hn24⟩ Hl.out Hlen.out (by omega)).mono ?_; rintro e w4 ⟨v4, rfl, how4, hxw4⟩; obtain ⟨Au, nu, cu, rfl⟩ := how4.form) | (at_builtin; refine wp_appendR rfl (.tmp 13) (.tmp 17) rfl rfl rfl hrel.out.1 hxw4 how4 hul hsz ?_; intro v' w' ho hb))
        go_roundw
        case rel => exact ⟨j + 1, _, by omega, by go_num, by rw [Hn.out]; exact ho, hrel.out.2.trans (by rw [World.size_alloc]; exact hb)⟩
        case measure => simp [intOf]; omega
      · obtain rfl : j = nn := by omega
        go_wp2
        go_ret
        have h1 := hrel.out.1
        rw [List.take_of_length_le (by rw [phsN_len]; exact Nat.le_refl _), ← Hphs.out] at h1
        exact ⟨_, us, rfl, h1.base (by omega), Hx.out.tr hrel.out.2⟩
  · have Hro := Lib.hid hr
    have Hphs := Lib.hid (phsL_f hr)
    clear hr
    go_enter Try.func20, Try.ntmps20
    go_wp2_with (first | (go_at_call 21; refine (rhythmOk_c n l _ _ Hv.out).mono ?_; rintro e w3 ⟨b3, rfl, hb3, hx3⟩; obtain rfl := bool_f hb3 Hro.out; clear hb3))
    go_ret
    exact ⟨_, [], rfl, by rw [Hphs.out]; exact Rhs.nil _ _, Hx.out.tr hx3⟩
end Go.Proofs.Ytjkgioimefagoaa
