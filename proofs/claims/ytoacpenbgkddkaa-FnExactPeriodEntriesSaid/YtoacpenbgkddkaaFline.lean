/- Contracts: CanGoOn, BlockLength, FailTime on both sides. -/
import Derived.Test.YtoacpenbgkddkaaFblock
namespace Go.Proofs.Ytoacpenbgkddkaa
open Go.RowKit
theorem fst_t {l : List Int} (h : (outc l).1 = true) : ∃ p es, outc l = (true, p, es) := ⟨_, _, by rw [← h]⟩
theorem fst_f {l : List Int} (h : ¬ (outc l).1 = true) : ∃ p, outc l = (false, p, []) := by
  have h1 : (outc l).1 = false := by simpa using h
  exact ⟨(outc l).2.1, by rw [← h1, ← outc_nil h1]⟩
def canB (l : List Int) : Bool := (outc l).1
def blkLen (l : List Int) : Int := if (outc l).1 = true ∧ (outc l).2.1 ≤ 200 then ((outc l).2.1 : Nat) else 0
def failT (l : List Int) : Int := if patB l = true ∧ (outc l).1 = false then ((outc l).2.1 : Nat) else -1
theorem canGoOn_c (l : List Int) (v : Value) (w : World) (hv : Ints w v l) : Calls Try.prog 21 #[v] w (RB ((outc l).1 = true) w) := by
  go_enter Try.func21, Try.ntmps21
  go_wp2_with (first | (go_at_call 50; refine (block_c l _ _ hv).mono ?_; rintro e w1 ⟨v1, rfl, ho, hx⟩))
  go_ret
  exact ⟨_, rfl, Iff.rfl, hx⟩
theorem specCanGoOn_c (l : List Int) (v : Value) (w : World) (hv : Ints w v l) : Calls Try.prog 20 #[v] w (RB ((outc l).1 = true) w) := by
  have Hv := Lib.hid hv
  clear hv
  by_cases hp : PatOk l
  · have Hp := Lib.hid hp
    clear hp
    have hpos : Hid ((outc l).1 = true ↔ 0 < perP l) := by
      unfold Hid perP
      cases h : (outc l).1 with
      | true => have := outc_pos h; simp; omega
      | false => simp
    go_enter Try.func20, Try.ntmps20
    go_wp2_with (first | (go_at_call 45; refine (specPatternOk_c l _ _ Hv.out).mono ?_; rintro e w1 ⟨b, rfl, hb, rfl⟩; obtain rfl := hb.2 Hp.out; clear hb) | (go_at_call 49; refine (l13Period_c l _ _ Hv.out Hp.out).mono ?_; rintro e w1 ⟨v1, rfl, ho, hx⟩))
    go_ret
    exact ⟨_, rfl, by rw [hpos.out]; simp, hx⟩
  · have H := Lib.hid (outc_f hp)
    have Hp := Lib.hid hp
    clear hp
    go_enter Try.func20, Try.ntmps20
    go_wp2_with (first | (go_at_call 45; refine (specPatternOk_c l _ _ Hv.out).mono ?_; rintro e w1 ⟨b, rfl, hb, rfl⟩; obtain rfl := bool_f hb Hp.out; clear hb))
    go_ret
    exact RB.f (by rw [H.out]; simp) (Below.refl _ _)

theorem blockLength_c (l : List Int) (v : Value) (w : World) (hv : Ints w v l) : Calls Try.prog 25 #[v] w (RI (blkLen l) w) := by
  have Hv := Lib.hid hv
  clear hv
  by_cases h1 : (outc l).1 = true
  · by_cases h2 : (outc l).2.1 ≤ 200
    · have H : Hid (blkLen l = ((outc l).2.1 : Nat)) := by unfold Hid blkLen; rw [if_pos ⟨h1, h2⟩]
      have H1 := Lib.hid h1
      clear h1
      go_enter Try.func25, Try.ntmps25
      go_wp2_with (first | (go_at_call 50; refine (block_c l _ _ Hv.out).mono ?_; rintro e w1 ⟨v1, rfl, ho, hx⟩; have h1 := H1.out))
      go_ret
      exact ⟨by rw [H.out]; rfl, by assumption⟩
    · have H : Hid (blkLen l = 0) := by unfold Hid blkLen; rw [if_neg (fun h => h2 h.2)]
      have h3 : (200 : Int) < ((outc l).2.1 : Nat) := by omega
      have H1 := Lib.hid h1
      clear h1 h2
      go_enter Try.func25, Try.ntmps25
      go_wp2_with (first | (go_at_call 50; refine (block_c l _ _ Hv.out).mono ?_; rintro e w1 ⟨v1, rfl, ho, hx⟩; have h1 := H1.out))
      go_ret
      exact ⟨by rw [H.out]; rfl, by assumption⟩
  · have H : Hid (blkLen l = 0) := by unfold Hid blkLen; rw [if_neg (fun h => h1 h.1)]
    have H1 : Hid ((outc l).1 = false) := by unfold Hid; simpa using h1
    clear h1
    go_enter Try.func25, Try.ntmps25
    go_wp2_with (first | (go_at_call 50; refine (block_c l _ _ Hv.out).mono ?_; rintro e w1 ⟨v1, rfl, ho, hx⟩; have h1 := H1.out))
    go_ret
    exact ⟨by rw [H.out]; rfl, by assumption⟩
theorem specBlockLength_c (l : List Int) (v : Value) (w : World) (hv : Ints w v l) : Calls Try.prog 24 #[v] w (RI (blkLen l) w) := by
  have Hv := Lib.hid hv
  clear hv
  by_cases hp : PatOk l
  · have Hp := Lib.hid hp
    clear hp
    by_cases h2 : perP l ≤ 200
    · have H : Hid (blkLen l = perP l) := by
        unfold Hid blkLen
        cases h : (outc l).1 with
        | true =>
          have : perP l = ((outc l).2.1 : Nat) := by unfold perP; rw [h]; rfl
          rw [if_pos ⟨rfl, by omega⟩, this]
        | false => unfold perP; rw [h]; simp
      go_enter Try.func24, Try.ntmps24
      go_wp2_with (first | (go_at_call 45; refine (specPatternOk_c l _ _ Hv.out).mono ?_; rintro e w1 ⟨b, rfl, hb, rfl⟩; obtain rfl := hb.2 Hp.out; clear hb) | (go_at_call 49; refine (l13Period_c l _ _ Hv.out Hp.out).mono ?_; rintro e w1 ⟨v1, rfl, ho, hx⟩))
      go_ret
      exact ⟨by rw [H.out]; rfl, by assumption⟩
    · have H : Hid (blkLen l = 0) := by
        unfold Hid blkLen
        rw [if_neg]
        rintro ⟨h, h3⟩
        have : perP l = ((outc l).2.1 : Nat) := by unfold perP; rw [h]; rfl
        omega
      have h3 : (200 : Int) < perP l := by omega
      clear h2
      go_enter Try.func24, Try.ntmps24
      go_wp2_with (first | (go_at_call 45; refine (specPatternOk_c l _ _ Hv.out).mono ?_; rintro e w1 ⟨b, rfl, hb, rfl⟩; obtain rfl := hb.2 Hp.out; clear hb) | (go_at_call 49; refine (l13Period_c l _ _ Hv.out Hp.out).mono ?_; rintro e w1 ⟨v1, rfl, ho, hx⟩))
      go_ret
      exact ⟨by rw [H.out]; rfl, by assumption⟩
  · have H : Hid (blkLen l = 0) := by unfold Hid blkLen; rw [outc_f hp]; simp
    have Hp := Lib.hid hp
    clear hp
    go_enter Try.func24, Try.ntmps24
    go_wp2_with (first | (go_at_call 45; refine (specPatternOk_c l _ _ Hv.out).mono ?_; rintro e w1 ⟨b, rfl, hb, rfl⟩; obtain rfl := bool_f hb Hp.out; clear hb))
    go_ret
    exact ⟨by rw [H.out]; rfl, Below.refl _ _⟩
theorem failTime_c (l : List Int) (v : Value) (w : World) (hv : Ints w v l) : Calls Try.prog 27 #[v] w (RI (failT l) w) := by
  have Hv := Lib.hid hv
  clear hv
  by_cases h1 : (outc l).1 = true
  · have H : Hid (failT l = -1) := by unfold Hid failT; rw [h1]; simp
    have H1 := Lib.hid h1
    clear h1
    go_enter Try.func27, Try.ntmps27
    go_wp2_with (first | (go_at_call 50; refine (block_c l _ _ Hv.out).mono ?_; rintro e w1 ⟨v1, rfl, ho, hx⟩; have h1 := H1.out))
    go_ret
    exact ⟨by rw [H.out]; rfl, by assumption⟩
  · have H1 : Hid ((outc l).1 = false) := by unfold Hid; simpa using h1
    by_cases hp : PatOk l
    · have H : Hid (failT l = ((outc l).2.1 : Nat)) := by unfold Hid failT; rw [if_pos ⟨patB_t hp, H1.out⟩]
      have Hp := Lib.hid hp
      clear h1 hp
      go_enter Try.func27, Try.ntmps27
      go_wp2_with (first | (go_at_call 50; refine (block_c l _ _ Hv.out).mono ?_; rintro e w1 ⟨v1, rfl, ho, hx⟩; have h1 := H1.out) | (go_at_call 47; refine (patternOk_c l _ _ (Hv.out.ext hx)).mono ?_; rintro e w1 ⟨b, rfl, hb, rfl⟩; obtain rfl := hb.2 Hp.out; clear hb))
      go_ret
      exact ⟨by rw [H.out]; rfl, by assumption⟩
    · have H : Hid (failT l = -1) := by unfold Hid failT; rw [patB_f hp]; simp
      have Hp := Lib.hid hp
      clear h1 hp
      go_enter Try.func27, Try.ntmps27
      go_wp2_with (first | (go_at_call 50; refine (block_c l _ _ Hv.out).mono ?_; rintro e w1 ⟨v1, rfl, ho, hx⟩; have h1 := H1.out) | (go_at_call 47; refine (patternOk_c l _ _ (Hv.out.ext hx)).mono ?_; rintro e w1 ⟨b, rfl, hb, rfl⟩; obtain rfl := bool_f hb Hp.out; clear hb))
      go_ret
      exact ⟨by rw [H.out]; rfl, by assumption⟩
theorem specFailTime_c (l : List Int) (v : Value) (w : World) (hv : Ints w v l) : Calls Try.prog 26 #[v] w (RI (failT l) w) := by
  have Hv := Lib.hid hv
  clear hv
  by_cases hp : PatOk l
  · have Hp := Lib.hid hp
    by_cases h1 : (outc l).1 = true
    · have H : Hid (failT l = -1) := by unfold Hid failT; rw [h1]; simp
      have h2 : 0 < perP l := by have := outc_pos h1; unfold perP; rw [h1]; simpa using this
      clear hp h1
      go_enter Try.func26, Try.ntmps26
      go_wp2_with (first | (go_at_call 45; refine (specPatternOk_c l _ _ Hv.out).mono ?_; rintro e w1 ⟨b, rfl, hb, rfl⟩; obtain rfl := hb.2 Hp.out; clear hb) | (go_at_call 49; refine (l13Period_c l _ _ Hv.out Hp.out).mono ?_; rintro e w1 ⟨v1, rfl, ho, hx⟩))
      go_ret
      exact ⟨by rw [H.out]; rfl, by assumption⟩
    · have h0 : (outc l).1 = false := by simpa using h1
      have H : Hid (failT l = perT l) := by unfold Hid failT perT; rw [if_pos ⟨patB_t hp, h0⟩, h0]; rfl
      have h2 : ¬ 0 < perP l := by unfold perP; rw [h0]; simp
      clear hp h1 h0
      go_enter Try.func26, Try.ntmps26
      go_wp2_with (first | (go_at_call 45; refine (specPatternOk_c l _ _ Hv.out).mono ?_; rintro e w1 ⟨b, rfl, hb, rfl⟩; obtain rfl := hb.2 Hp.out; clear hb) | (go_at_call 49; refine (l13Period_c l _ _ Hv.out Hp.out).mono ?_; rintro e w1 ⟨v1, rfl, ho, hx⟩))
      go_ret
      exact ⟨by rw [H.out]; rfl, by assumption⟩
  · have H : Hid (failT l = -1) := by unfold Hid failT; rw [patB_f hp]; simp
    have Hp := Lib.hid hp
    clear hp
    go_enter Try.func26, Try.ntmps26
    go_wp2_with (first | (go_at_call 45; refine (specPatternOk_c l _ _ Hv.out).mono ?_; rintro e w1 ⟨b, rfl, hb, rfl⟩; obtain rfl := bool_f hb Hp.out; clear hb))
    go_ret
    exact ⟨by rw [H.out]; rfl, Below.refl _ _⟩
def linP (l : List Int) : Int := if (outc l).1 = true then ((outc l).2.1 : Nat) else 0
theorem linePeriod_c (l : List Int) (v : Value) (w : World) (hv : Ints w v l) : Calls Try.prog 29 #[v] w (RI (linP l) w) := by
  have Hv := Lib.hid hv
  clear hv
  by_cases h1 : (outc l).1 = true
  · have H : Hid (linP l = ((outc l).2.1 : Nat)) := by unfold Hid linP; rw [if_pos h1]
    have H1 := Lib.hid h1
    clear h1
    go_enter Try.func29, Try.ntmps29
    go_wp2_with (first | (go_at_call 50; refine (block_c l _ _ Hv.out).mono ?_; rintro e w1 ⟨v1, rfl, ho, hx⟩; have h1 := H1.out))
    go_ret
    exact ⟨by rw [H.out]; rfl, by assumption⟩
  · have H : Hid (linP l = 0) := by unfold Hid linP; rw [if_neg h1]
    have H1 : Hid ((outc l).1 = false) := by unfold Hid; simpa using h1
    clear h1
    go_enter Try.func29, Try.ntmps29
    go_wp2_with (first | (go_at_call 50; refine (block_c l _ _ Hv.out).mono ?_; rintro e w1 ⟨v1, rfl, ho, hx⟩; have h1 := H1.out))
    go_ret
    exact ⟨by rw [H.out]; rfl, by assumption⟩
theorem periodEntries_c (l : List Int) (v : Value) (w : World) (hv : Ints w v l) : Calls Try.prog 31 #[v] w (RL (esI (outc l).2.2) w) := by
  have Hv := Lib.hid hv
  clear hv
  by_cases h1 : (outc l).1 = true
  · have H1 := Lib.hid h1
    clear h1
    go_enter Try.func31, Try.ntmps31
    go_wp2_with (first | (go_at_call 50; refine (block_c l _ _ Hv.out).mono ?_; rintro e w1 ⟨v1, rfl, ho, hx⟩; have h1 := H1.out))
    go_ret
    exact ⟨_, rfl, by assumption, by assumption⟩
  · have H1 : Hid ((outc l).1 = false) := by unfold Hid; simpa using h1
    have H2 := Lib.hid (outc_nil H1.out)
    clear h1
    go_enter Try.func31, Try.ntmps31
    go_wp2_with (first | (go_at_call 50; refine (block_c l _ _ Hv.out).mono ?_; rintro e w1 ⟨v1, rfl, ho, hx⟩; have h1 := H1.out))
    go_ret
    exact ⟨_, rfl, by rw [H2.out]; exact Own.nil _ _, by assumption⟩
theorem l02Has_c (l : List Int) (x : Int) (v : Value) (w : World) (hv : Ints w v l) : Calls Try.prog 63 #[v, .int .i64 x] w (RBs (x ∈ l) w) := by
  have hlen := hv.len
  obtain ⟨A, c, rfl, hlc, hcm⟩ := hv.form0
  have Hv := Lib.hid hv
  clear hv
  go_enter Try.func63, Try.ntmps63
  go_wp2
  go_loop [9] (fun i => ∃ k : Nat, k ≤ l.length ∧ i = .int .i64 k ∧ Hid (¬ x ∈ l.take k)) (fun i => l.length - (intOf i).toNat)
  case atStart => exact ⟨0, Nat.zero_le _, rfl, by simp [Hid]⟩
  case round =>
    obtain ⟨k, hk, rfl, hno⟩ := hrel
    by_cases hkl : k < l.length
    · obtain ⟨ad, c', hA, _, _⟩ := Hv.out.form (by omega)
      obtain ⟨rfl, rfl⟩ : A = some ad ∧ c = c' := by simpa using hA
      obtain ⟨y, hy⟩ : ∃ y, l[k]? = some y := ⟨_, List.getElem?_eq_getElem (by omega)⟩
      have hc := Hv.out.cell hy
      have Hy := Lib.hid hy
      clear hy hA
      by_cases hxy : x = y
      · have hb : ((x : Int) == y) = true := by simp [hxy]
        have Ht : Hid (x ∈ l) := by unfold Hid; rw [hxy]; exact List.mem_of_getElem? Hy.out
        clear hxy
        go_wp2
        go_ret
        exact RBs.t Ht.out
      · have hb : ((x : Int) == y) = false := by simp [hxy]
        have Hn : Hid (¬ x ∈ l.take (k + 1)) := by
          unfold Hid
          rw [take_succ Hy.out, List.mem_append]
          rintro (h | h)
          · exact hno.out h
          · simp at h; exact hxy h
        clear hxy
        go_wp2
        go_round
        case rel => exact ⟨k + 1, by omega, by go_num, Hn⟩
        case measure => simp [intOf]; omega
    · have Hk : Hid (k = l.length) := by show k = _; omega
      go_wp2
      go_ret
      have := hno.out
      rw [Hk.out, List.take_length] at this
      exact RBs.f this
end Go.Proofs.Ytoacpenbgkddkaa
