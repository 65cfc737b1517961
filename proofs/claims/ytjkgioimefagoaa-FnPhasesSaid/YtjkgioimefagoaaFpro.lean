/- Contracts: ProcessOf on both sides. -/
import Derived.Test.YtjkgioimefagoaaFps
namespace Go.Proofs.Ytjkgioimefagoaa
open Go.RowKit
def proUp (n : Nat) (l : List Int) (s j : Nat) : List (Int × List Int) := (List.range j).flatMap fun (k : Nat) => List.replicate s ((n : Int), phL n l k)
theorem proUp_succ (n : Nat) (l : List Int) (s j : Nat) : proUp n l s (j + 1) = proUp n l s j ++ List.replicate s ((n : Int), phL n l j) := by
  unfold proUp; rw [List.range_succ, List.flatMap_append]; simp
theorem proUp_len (n : Nat) (l : List Int) (s j : Nat) : (proUp n l s j).length = j * s := by
  induction j with
  | zero => simp [proUp]
  | succ j ih => rw [proUp_succ, List.length_append, ih, List.length_replicate]; rw [Nat.succ_mul]
def proOk (n : Int) (l : List Int) (s : Int) : Prop := RhyOk n l ∧ 1 ≤ s ∧ s ≤ 4
instance (n : Int) (l : List Int) (s : Int) : Decidable (proOk n l s) := by unfold proOk; infer_instance
def proL (n : Int) (l : List Int) (s : Int) : List (Int × List Int) := if proOk n l s then proUp n.toNat l s.toNat (n.toNat + 1) else []
theorem pro_t {n s : Nat} {l : List Int} (h : proOk n l s) : proL n l s = proUp n l s (n + 1) := by unfold proL; rw [if_pos h]; simp
theorem pro_f {n s : Int} {l : List Int} (h : ¬ proOk n l s) : proL n l s = [] := by unfold proL; rw [if_neg h]
theorem proL_len (n : Int) (l : List Int) (s : Int) : (proL n l s).length ≤ 100 := by
  by_cases h : proOk n l s
  · obtain ⟨nn, rfl, _, h24, _⟩ := h.1.nat
    obtain ⟨ss, rfl⟩ := Int.eq_ofNat_of_zero_le (show 0 ≤ s by have := h.2; omega)
    rw [pro_t h, proUp_len]
    have := h.2
    calc (nn + 1) * ss ≤ 25 * 4 := Nat.mul_le_mul (by omega) (by omega)
      _ ≤ 100 := by omega
  · rw [pro_f h]; exact Nat.zero_le _
theorem proL_all (n : Int) (l : List Int) (s : Int) : ∀ r ∈ proL n l s, r.2.length ≤ 1000 := by
  intro r hr
  by_cases h : proOk n l s
  · obtain ⟨nn, rfl, _, h24, _⟩ := h.1.nat
    obtain ⟨ss, rfl⟩ := Int.eq_ofNat_of_zero_le (show 0 ≤ s by have := h.2; omega)
    rw [show ((ss : Nat) : Int) = (ss : Int) from rfl, pro_t h] at hr
    unfold proUp at hr
    rw [List.mem_flatMap] at hr
    obtain ⟨k, _, hk⟩ := hr
    rw [List.mem_replicate] at hk
    rw [hk.2]
    have := rhL_len nn (l ++ rotL nn l k)
    show (phL nn l k).length ≤ 1000
    unfold phL; omega
  · rw [pro_f h] at hr; simp at hr
set_option maxRecDepth 100000 in
set_option maxHeartbeats 1000000 in
theorem processOf_c (n : Int) (l : List Int) (s : Int) (v : Value) (w : World) (hv : Ints w v l) : Calls Try.prog 15 #[.agg #[.int .i64 n, v], .int .i64 s] w (RRs (proL n l s) w) := by
  obtain ⟨A, c, hve, _, _⟩ := hv.form0
  obtain ⟨m, hm⟩ : ∃ m, m = l.length := ⟨_, rfl⟩
  rw [← hm] at hve
  subst hve
  have hx := one_box w (.cells #[.int .i64 n, .slice A m c] 25)
  have ha := RVar.new (T := 25) w n (.slice A m c)
  have Hv := Lib.hid (hv.ext hx)
  have Hx := Lib.hid hx
  have Ra := Lib.hid ha
  clear hv hx hm ha
  by_cases hr : RhyOk n l
  · have Hro := Lib.hid hr
    by_cases hs : 1 ≤ s ∧ s ≤ 4
    · obtain ⟨nn, rfl, hn1, hn24, hlen, hl⟩ := hr.nat
      obtain ⟨ss, rfl⟩ := Int.eq_ofNat_of_zero_le (show 0 ≤ s by omega)
      have hss : ss ≤ 4 := by omega
      have Hp := Lib.hid (pro_t (n := nn) (s := ss) ⟨hr, hs⟩)
      have Hl := Lib.hid hl
      have Hlen := Lib.hid hlen
      clear hr hl hlen
      go_enter Try.func15, Try.ntmps15
      go_wp2_with (first | (go_at_call 21; refine (rhythmOk_c (nn : Int) l _ _ Hv.out).mono ?_; rintro e w3 ⟨b3, rfl, hb3, hx3⟩; obtain rfl := hb3.2 Hro.out; clear hb3; have hc1 := (Ra.out.ext hx3).c0; have hc2 := (Ra.out.ext hx3).c1) | (go_at_call 23; refine (within_t _ ?_).mono ?_; (focus omega); rintro e w1 ⟨rfl, rfl⟩) | (go_at_call 23; refine (within_f _ ?_).mono ?_; (focus omega); rintro e w1 ⟨rfl, rfl⟩))
      clear hc1 hc2
      go_loopw [5, 18] (fun o i wr => ∃ (j : Nat) (us : List (Int × Value)), j ≤ nn + 1 ∧ i = .int .i64 j ∧ Hid (Rhs wr (w.heap.size + 1) o us (proUp nn l ss j) ∧ Ext (w.alloc (.cells #[.int .i64 (nn : Int), .slice A m c] 25)) wr)) (fun _ i _ => nn + 1 - (intOf i).toNat)
      case atStart => exact ⟨0, [], Nat.zero_le _, rfl, Rhs.nil _ _, hx3⟩
      case round =>
        obtain ⟨j, us, hj, rfl, hro⟩ := hrel
        by_cases hjn : j < nn + 1
        · have hjn2 : (j : Int) < (nn : Int) + 1 := by omega
          go_wp2
          go_loopw [5, 22] (fun o i wr => ∃ (z : Nat) (us : List (Int × Value)), z ≤ ss ∧ i = .int .i64 z ∧ Hid (Rhs wr (w.heap.size + 1) o us (proUp nn l ss j ++ List.replicate z ((nn : Int), phL nn l j)) ∧ Ext (w.alloc (.cells #[.int .i64 (nn : Int), .slice A m c] 25)) wr)) (fun _ i _ => ss - (intOf i).toNat)
          case atStart => exact ⟨0, us, Nat.zero_le _, rfl, by simpa [Hid] using hro.out⟩
          case round =>
            clear hro
            obtain ⟨z, us, hz, rfl, hrel⟩ := hrel
            have hc1 := (Ra.out.ext hrel.out.2).c0
            have hc2 := (Ra.out.ext hrel.out.2).c1
            by_cases hzs : z < ss
            · have hzs2 : (z : Int) < (ss : Int) := by omega
              have hul : us.length ≤ 1000000 := by
                have h1 := hrel.out.1.2.1
                rw [List.length_append, proUp_len, List.length_replicate] at h1
                have : j * ss ≤ 25 * 4 := Nat.mul_le_mul (by omega) hss
                omega
              have hsz : w.heap.size + 1 ≤ wr.heap.size := by have := hrel.out.2.size; simp only [World.size_alloc] at this; exact this
              go_wp2_with (first | (go_at_call 24; refine (phase_c nn l (j : Int) _ _ (Hv.out.ext hrel.out.2) ⟨hn1, hn24⟩ Hl.out Hlen.out (by omega)).mono ?_; rintro e w4 ⟨v4, rfl, how4, hxw4⟩; obtain ⟨Au, nu, cu, rfl⟩ := how4.form) | (at_builtin; refine wp_appendR rfl (.tmp 24) (.tmp 28) rfl rfl rfl hrel.out.1 hxw4 how4 hul hsz ?_; intro v' w' ho hb))
              go_roundw
              case rel => exact ⟨z + 1, _, by omega, by go_num, by rw [List.replicate_succ', ← List.append_assoc]; exact ho, hrel.out.2.trans (by rw [World.size_alloc]; exact hb)⟩
              case measure => simp [intOf]; omega
            · obtain rfl : z = ss := by omega
              go_wp2
              go_roundw
              case rel => exact ⟨j + 1, us, by omega, by go_num, by rw [proUp_succ]; exact hrel.out.1, hrel.out.2⟩
              case measure => simp [intOf]; omega
        · obtain rfl : j = nn + 1 := by omega
          go_wp2
          go_ret
          have h1 := hro.out.1
          rw [← Hp.out] at h1
          exact ⟨_, us, rfl, h1.base (by omega), Hx.out.tr hro.out.2⟩
    · have Hp := Lib.hid (pro_f (n := n) (l := l) (s := s) (fun h => hs h.2))
      clear hr
      go_enter Try.func15, Try.ntmps15
      go_wp2_with (first | (go_at_call 21; refine (rhythmOk_c n l _ _ Hv.out).mono ?_; rintro e w3 ⟨b3, rfl, hb3, hx3⟩; obtain rfl := hb3.2 Hro.out; clear hb3) | (go_at_call 23; refine (within_t _ ?_).mono ?_; (focus omega); rintro e w1 ⟨rfl, rfl⟩) | (go_at_call 23; refine (within_f _ ?_).mono ?_; (focus omega); rintro e w1 ⟨rfl, rfl⟩))
      go_ret
      exact ⟨_, [], rfl, by rw [Hp.out]; exact Rhs.nil _ _, Hx.out.tr hx3⟩
  · have Hro := Lib.hid hr
    have Hp := Lib.hid (pro_f (n := n) (l := l) (s := s) (fun h => hr h.1))
    clear hr
    go_enter Try.func15, Try.ntmps15
    go_wp2_with (first | (go_at_call 21; refine (rhythmOk_c n l _ _ Hv.out).mono ?_; rintro e w3 ⟨b3, rfl, hb3, hx3⟩; obtain rfl := bool_f hb3 Hro.out; clear hb3))
    go_ret
    exact ⟨_, [], rfl, by rw [Hp.out]; exact Rhs.nil _ _, Hx.out.tr hx3⟩
end Go.Proofs.Ytjkgioimefagoaa
