/- Contracts: CanGoOn, BlockLength, FailTime on both sides. -/
import Derived.Test.YtkdodbhkobefiaaDoorFblock
import Derived.Test.YtkdodbhkobefiaaDoorFhas
namespace Go.Proofs.YtkdodbhkobefiaaDoor
open Go.RowKit
theorem fst_t {l : List Int} (h : (outc l).1 = true) : ∃ p es, outc l = (true, p, es) := ⟨_, _, by rw [← h]⟩
theorem fst_f {l : List Int} (h : ¬ (outc l).1 = true) : ∃ p, outc l = (false, p, []) := by
  have h1 : (outc l).1 = false := by simpa using h
  exact ⟨(outc l).2.1, by rw [← h1, ← outc_nil h1]⟩
def canB (l : List Int) : Bool := (outc l).1
def blkLen (l : List Int) : Int := if (outc l).1 = true ∧ (outc l).2.1 ≤ 200 then ((outc l).2.1 : Nat) else 0
def failT (l : List Int) : Int := if patB l = true ∧ (outc l).1 = false then ((outc l).2.1 : Nat) else -1
def linP (l : List Int) : Int := if (outc l).1 = true then ((outc l).2.1 : Nat) else 0
theorem canGoOn_c (l : List Int) (v : Value) (w : World) (hv : Ints w v l) : Calls Tryd.prog 10 #[v] w (RB ((outc l).1 = true) w) := by
  go_enter Tryd.func10, Tryd.ntmps10
  go_wp2_with (first | (go_at_call 19; refine (block_c l _ _ hv).mono ?_; rintro e w1 ⟨v1, rfl, ho, hx⟩))
  go_ret
  exact ⟨_, rfl, Iff.rfl, hx⟩

theorem blockLength_c (l : List Int) (v : Value) (w : World) (hv : Ints w v l) : Calls Tryd.prog 9 #[v] w (RI (blkLen l) w) := by
  have Hv := Lib.hid hv
  clear hv
  by_cases h1 : (outc l).1 = true
  · by_cases h2 : (outc l).2.1 ≤ 200
    · have H : Hid (blkLen l = ((outc l).2.1 : Nat)) := by unfold Hid blkLen; rw [if_pos ⟨h1, h2⟩]
      have H1 := Lib.hid h1
      clear h1
      go_enter Tryd.func9, Tryd.ntmps9
      go_wp2_with (first | (go_at_call 19; refine (block_c l _ _ Hv.out).mono ?_; rintro e w1 ⟨v1, rfl, ho, hx⟩; have h1 := H1.out))
      go_ret
      exact ⟨by rw [H.out]; rfl, by assumption⟩
    · have H : Hid (blkLen l = 0) := by unfold Hid blkLen; rw [if_neg (fun h => h2 h.2)]
      have h3 : (200 : Int) < ((outc l).2.1 : Nat) := by omega
      have H1 := Lib.hid h1
      clear h1 h2
      go_enter Tryd.func9, Tryd.ntmps9
      go_wp2_with (first | (go_at_call 19; refine (block_c l _ _ Hv.out).mono ?_; rintro e w1 ⟨v1, rfl, ho, hx⟩; have h1 := H1.out))
      go_ret
      exact ⟨by rw [H.out]; rfl, by assumption⟩
  · have H : Hid (blkLen l = 0) := by unfold Hid blkLen; rw [if_neg (fun h => h1 h.1)]
    have H1 : Hid ((outc l).1 = false) := by unfold Hid; simpa using h1
    clear h1
    go_enter Tryd.func9, Tryd.ntmps9
    go_wp2_with (first | (go_at_call 19; refine (block_c l _ _ Hv.out).mono ?_; rintro e w1 ⟨v1, rfl, ho, hx⟩; have h1 := H1.out))
    go_ret
    exact ⟨by rw [H.out]; rfl, by assumption⟩
theorem failTime_c (l : List Int) (v : Value) (w : World) (hv : Ints w v l) : Calls Tryd.prog 8 #[v] w (RI (failT l) w) := by
  have Hv := Lib.hid hv
  clear hv
  by_cases h1 : (outc l).1 = true
  · have H : Hid (failT l = -1) := by unfold Hid failT; rw [h1]; simp
    have H1 := Lib.hid h1
    clear h1
    go_enter Tryd.func8, Tryd.ntmps8
    go_wp2_with (first | (go_at_call 19; refine (block_c l _ _ Hv.out).mono ?_; rintro e w1 ⟨v1, rfl, ho, hx⟩; have h1 := H1.out))
    go_ret
    exact ⟨by rw [H.out]; rfl, by assumption⟩
  · have H1 : Hid ((outc l).1 = false) := by unfold Hid; simpa using h1
    by_cases hp : PatOk l
    · have H : Hid (failT l = ((outc l).2.1 : Nat)) := by unfold Hid failT; rw [if_pos ⟨patB_t hp, H1.out⟩]
      have Hp := Lib.hid hp
      clear h1 hp
      go_enter Tryd.func8, Tryd.ntmps8
      go_wp2_with (first | (go_at_call 19; refine (block_c l _ _ Hv.out).mono ?_; rintro e w1 ⟨v1, rfl, ho, hx⟩; have h1 := H1.out) | (go_at_call 11; refine (patternOk_c l _ _ (Hv.out.ext hx)).mono ?_; rintro e w1 ⟨b, rfl, hb, rfl⟩; obtain rfl := hb.2 Hp.out; clear hb))
      go_ret
      exact ⟨by rw [H.out]; rfl, by assumption⟩
    · have H : Hid (failT l = -1) := by unfold Hid failT; rw [patB_f hp]; simp
      have Hp := Lib.hid hp
      clear h1 hp
      go_enter Tryd.func8, Tryd.ntmps8
      go_wp2_with (first | (go_at_call 19; refine (block_c l _ _ Hv.out).mono ?_; rintro e w1 ⟨v1, rfl, ho, hx⟩; have h1 := H1.out) | (go_at_call 11; refine (patternOk_c l _ _ (Hv.out.ext hx)).mono ?_; rintro e w1 ⟨b, rfl, hb, rfl⟩; obtain rfl := bool_f hb Hp.out; clear hb))
      go_ret
      exact ⟨by rw [H.out]; rfl, by assumption⟩
theorem linePeriod_c (l : List Int) (v : Value) (w : World) (hv : Ints w v l) : Calls Tryd.prog 6 #[v] w (RI (linP l) w) := by
  have Hv := Lib.hid hv
  clear hv
  by_cases h1 : (outc l).1 = true
  · have H : Hid (linP l = ((outc l).2.1 : Nat)) := by unfold Hid linP; rw [if_pos h1]
    have H1 := Lib.hid h1
    clear h1
    go_enter Tryd.func6, Tryd.ntmps6
    go_wp2_with (first | (go_at_call 19; refine (block_c l _ _ Hv.out).mono ?_; rintro e w1 ⟨v1, rfl, ho, hx⟩; have h1 := H1.out))
    go_ret
    exact ⟨by rw [H.out]; rfl, by assumption⟩
  · have H : Hid (linP l = 0) := by unfold Hid linP; rw [if_neg h1]
    have H1 : Hid ((outc l).1 = false) := by unfold Hid; simpa using h1
    clear h1
    go_enter Tryd.func6, Tryd.ntmps6
    go_wp2_with (first | (go_at_call 19; refine (block_c l _ _ Hv.out).mono ?_; rintro e w1 ⟨v1, rfl, ho, hx⟩; have h1 := H1.out))
    go_ret
    exact ⟨by rw [H.out]; rfl, by assumption⟩
theorem periodEntries_c (l : List Int) (v : Value) (w : World) (hv : Ints w v l) : Calls Tryd.prog 7 #[v] w (RL (esI (outc l).2.2) w) := by
  have Hv := Lib.hid hv
  clear hv
  by_cases h1 : (outc l).1 = true
  · have H1 := Lib.hid h1
    clear h1
    go_enter Tryd.func7, Tryd.ntmps7
    go_wp2_with (first | (go_at_call 19; refine (block_c l _ _ Hv.out).mono ?_; rintro e w1 ⟨v1, rfl, ho, hx⟩; have h1 := H1.out))
    go_ret
    exact ⟨_, rfl, by assumption, by assumption⟩
  · have H1 : Hid ((outc l).1 = false) := by unfold Hid; simpa using h1
    have H2 := Lib.hid (outc_nil H1.out)
    clear h1
    go_enter Tryd.func7, Tryd.ntmps7
    go_wp2_with (first | (go_at_call 19; refine (block_c l _ _ Hv.out).mono ?_; rintro e w1 ⟨v1, rfl, ho, hx⟩; have h1 := H1.out))
    go_ret
    exact ⟨_, rfl, by rw [H2.out]; exact Own.nil _ _, by assumption⟩
end Go.Proofs.YtkdodbhkobefiaaDoor
