/- Contracts: CountCovers, CoversOf, CoverLengths, LeastCover on both sides. -/
import Derived.Test.YtpnbcgnbkanebaaDoorFcov
import Derived.Test.YtpnbcgnbkanebaaDoorFva
import Derived.Test.YtpnbcgnbkanebaaDoorFvc
import Derived.Test.YtpnbcgnbkanebaaDoorFmir
import Derived.Test.YtpnbcgnbkanebaaDoorFlin
namespace Go.Proofs.YtpnbcgnbkanebaaDoor
open Go.RowKit
/-- all covers of n times -/
def cvs (p : List Int) (n : Nat) : List (List Int) := cv (maskN p) (maskN (mirL p)) n (n + 1) 0 0
def cntC (p : List Int) (n : Int) : Int := if patB p = true ∧ 0 ≤ n ∧ n ≤ 24 then ((cvs p n.toNat).length : Int) else -1
def allC (p : List Int) (n : Int) : List (List Int) := if patB p = true ∧ 0 ≤ n ∧ n ≤ 16 then cvs p n.toNat else []
theorem cntC_t {p : List Int} (hp : PatOk p) {k : Nat} (hk : k ≤ 24) : cntC p k = ((cvs p k).length : Int) := by unfold cntC; rw [if_pos ⟨patB_t hp, by omega, by omega⟩, Int.toNat_natCast]
theorem cntC_f {p : List Int} {n : Int} (h : ¬ PatOk p ∨ ¬ (0 ≤ n ∧ n ≤ 24)) : cntC p n = -1 := by
  unfold cntC
  refine if_neg fun h' => ?_
  rcases h with h | h
  · rw [patB_f h] at h'; cases h'.1
  · exact h h'.2
theorem allC_t {p : List Int} (hp : PatOk p) {k : Nat} (hk : k ≤ 16) : allC p k = cvs p k := by unfold allC; rw [if_pos ⟨patB_t hp, by omega, by omega⟩, Int.toNat_natCast]
theorem allC_f {p : List Int} {n : Int} (h : ¬ PatOk p ∨ ¬ (0 ≤ n ∧ n ≤ 16)) : allC p n = [] := by
  unfold allC
  refine if_neg fun h' => ?_
  rcases h with h | h
  · rw [patB_f h] at h'; cases h'.1
  · exact h h'.2
theorem cvs_len (p : List Int) (n : Nat) (hn : n ≤ 24) : (cvs p n).length ≤ 33554432 := Nat.le_trans (cv_len _ _ _ _ _ _) (Nat.pow_le_pow_right (n := 2) (by decide) (show n + 1 ≤ 25 by omega))
theorem cvs16_len (p : List Int) (n : Nat) (hn : n ≤ 16) : (cvs p n).length ≤ 131072 := Nat.le_trans (cv_len _ _ _ _ _ _) (Nat.pow_le_pow_right (n := 2) (by decide) (show n + 1 ≤ 17 by omega))
theorem allC_len (p : List Int) (n : Int) : (allC p n).length ≤ 131072 := by
  unfold allC
  split
  · exact cvs16_len p _ (by omega)
  · exact Nat.zero_le _
/-- the lengths up to k that have a cover -/
def lenUp (p : List Int) (k : Nat) : List Int := ((List.range k).filter fun j => decide (0 < (cvs p (j + 1)).length)).map fun j => ((j + 1 : Nat) : Int)
theorem lenUp_t {p : List Int} {k : Nat} (h : 0 < (cvs p (k + 1)).length) : lenUp p (k + 1) = lenUp p k ++ [((k + 1 : Nat) : Int)] := by
  unfold lenUp; rw [List.range_succ, List.filter_append, List.map_append]; simp [h]
theorem lenUp_f {p : List Int} {k : Nat} (h : ¬ 0 < (cvs p (k + 1)).length) : lenUp p (k + 1) = lenUp p k := by
  unfold lenUp; rw [List.range_succ, List.filter_append, List.map_append]; simp at h; simp [h]
theorem lenUp_len (p : List Int) (k : Nat) : (lenUp p k).length ≤ k := by
  unfold lenUp; rw [List.length_map]
  have := List.length_filter_le (fun j => decide (0 < (cvs p (j + 1)).length)) (List.range k)
  rwa [List.length_range] at this
def lenC (p : List Int) : List Int := if patB p = true then lenUp p 24 else []
theorem lenC_t {p : List Int} (hp : PatOk p) : lenC p = lenUp p 24 := if_pos (patB_t hp)
theorem lenC_f {p : List Int} (hp : ¬ PatOk p) : lenC p = [] := if_neg (by rw [patB_f hp]; simp)
theorem lenC_len (p : List Int) : (lenC p).length ≤ 24 := by
  unfold lenC
  split
  · exact lenUp_len p 24
  · exact Nat.zero_le _
def leastC (p : List Int) : Int := (lenC p).headD 0
theorem lenUp_app (p : List Int) (k : Nat) : ∀ d, ∃ m, lenUp p (k + d) = lenUp p k ++ m := by
  intro d
  induction d with
  | zero => exact ⟨[], by simp⟩
  | succ d ih =>
    obtain ⟨m, hm⟩ := ih
    by_cases h : 0 < (cvs p (k + d + 1)).length
    · exact ⟨m ++ [((k + d + 1 : Nat) : Int)], by rw [← Nat.add_assoc, lenUp_t h, hm, List.append_assoc]⟩
    · exact ⟨m, by rw [← Nat.add_assoc, lenUp_f h, hm]⟩
/-- the first length that has a cover -/
theorem leastC_first {p : List Int} (hp : PatOk p) {k : Nat} (hk : k < 24) (h0 : lenUp p k = []) (h : 0 < (cvs p (k + 1)).length) : leastC p = ((k + 1 : Nat) : Int) := by
  unfold leastC
  obtain ⟨m, hm⟩ := lenUp_app p (k + 1) (24 - (k + 1))
  rw [lenC_t hp, show 24 = (k + 1) + (24 - (k + 1)) by omega, hm, lenUp_t h, h0]
  rfl
theorem leastC_none {p : List Int} (hp : PatOk p) (h0 : lenUp p 24 = []) : leastC p = 0 := by
  unfold leastC; rw [lenC_t hp, h0]; rfl
theorem leastC_f {p : List Int} (hp : ¬ PatOk p) : leastC p = 0 := by
  unfold leastC; rw [lenC_f hp]; rfl
theorem leastC_get {p : List Int} (h : 0 < (lenC p).length) : (lenC p)[0]? = some (leastC p) := by
  unfold leastC
  cases e : lenC p with
  | nil => rw [e] at h; simp at h
  | cons a t => rfl
theorem D_zero : D 0 = (0, 0) := D_even (by decide)
set_option maxRecDepth 100000 in
set_option maxHeartbeats 1000000 in
theorem countCovers_c (p : List Int) (n : Int) (v : Value) (w : World) (hv : Ints w v p) (hn : I64 n) (ht : TabAt 1 Lib.deBruijn64tab w) : Calls Tryd.prog 16 #[v, .int .i64 n] w (RI (cntC p n) w) := by
  unfold I64 at hn
  have Hv := Lib.hid hv
  have Ht := Lib.hid ht
  clear hv ht
  by_cases hp : PatOk p
  · have Hp := Lib.hid hp
    by_cases hn1 : 0 ≤ n ∧ n ≤ 24
    · obtain ⟨k, rfl⟩ : ∃ k : Nat, n = k := ⟨n.toNat, by omega⟩
      have hk : k ≤ 24 := by omega
      have H := Lib.hid (cntC_t hp hk)
      clear hp
      go_enter Tryd.func16, Tryd.ntmps16
      go_wp2_with (first | (go_at_call 26; refine (patternOk_c p _ _ Hv.out).mono ?_; rintro e w1 ⟨b, rfl, hb, rfl⟩; obtain rfl := hb.2 Hp.out; clear hb) | (go_at_call 27; refine (within_t _ ?_).mono ?_; (focus omega); rintro e w1 ⟨rfl, rfl⟩) | (go_at_call 29; refine (covers_c p k _ _ Hv.out Hp.out (by omega) Ht.out).mono ?_; rintro e w1 ⟨v1, usv1, rfl, ho1, hx1⟩; (obtain ⟨A1, c1, hv1, _, _⟩ := ho1.form; obtain ⟨m1, hm1⟩ : ∃ m1, m1 = usv1.length := ⟨_, rfl⟩; rw [← hm1] at hv1; subst hv1; have Hm1 := Lib.hid hm1; clear hm1)))
      go_ret
      exact ⟨by rw [H.out, Hm1.out, ho1.2.1]; rfl, hx1⟩
    · have H := Lib.hid (cntC_f (p := p) (.inr hn1))
      clear hp
      go_enter Tryd.func16, Tryd.ntmps16
      go_wp2_with (first | (go_at_call 26; refine (patternOk_c p _ _ Hv.out).mono ?_; rintro e w1 ⟨b, rfl, hb, rfl⟩; obtain rfl := hb.2 Hp.out; clear hb) | (go_at_call 27; refine (within_f _ ?_).mono ?_; (focus omega); rintro e w1 ⟨rfl, rfl⟩))
      go_ret
      exact ⟨by rw [H.out]; rfl, Below.refl _ _⟩
  · have H := Lib.hid (cntC_f (n := n) (.inl hp))
    have Hp := Lib.hid hp
    clear hp
    go_enter Tryd.func16, Tryd.ntmps16
    go_wp2_with (first | (go_at_call 26; refine (patternOk_c p _ _ Hv.out).mono ?_; rintro e w1 ⟨b, rfl, hb, rfl⟩; obtain rfl := bool_f hb Hp.out; clear hb))
    go_ret
    exact ⟨by rw [H.out]; rfl, Below.refl _ _⟩
set_option maxRecDepth 100000 in
set_option maxHeartbeats 1000000 in
theorem coversOf_c (p : List Int) (n : Int) (v : Value) (w : World) (hv : Ints w v p) (hn : I64 n) (ht : TabAt 1 Lib.deBruijn64tab w) : Calls Tryd.prog 15 #[v, .int .i64 n] w (RLs (allC p n) w) := by
  unfold I64 at hn
  have Hv := Lib.hid hv
  have Ht := Lib.hid ht
  clear hv ht
  by_cases hp : PatOk p
  · have Hp := Lib.hid hp
    by_cases hn1 : 0 ≤ n ∧ n ≤ 16
    · obtain ⟨k, rfl⟩ : ∃ k : Nat, n = k := ⟨n.toNat, by omega⟩
      have hk : k ≤ 16 := by omega
      have H := Lib.hid (allC_t hp hk)
      clear hp
      go_enter Tryd.func15, Tryd.ntmps15
      go_wp2_with (first | (go_at_call 26; refine (patternOk_c p _ _ Hv.out).mono ?_; rintro e w1 ⟨b, rfl, hb, rfl⟩; obtain rfl := hb.2 Hp.out; clear hb) | (go_at_call 27; refine (within_t _ ?_).mono ?_; (focus omega); rintro e w1 ⟨rfl, rfl⟩) | (go_at_call 29; refine (covers_c p k _ _ Hv.out Hp.out (by omega) Ht.out).mono ?_; rintro e w1 ⟨v1, usv1, rfl, ho1, hx1⟩))
      go_ret
      exact ⟨_, _, rfl, by rw [H.out]; exact ho1, hx1⟩
    · have H := Lib.hid (allC_f (p := p) (.inr hn1))
      clear hp
      go_enter Tryd.func15, Tryd.ntmps15
      go_wp2_with (first | (go_at_call 26; refine (patternOk_c p _ _ Hv.out).mono ?_; rintro e w1 ⟨b, rfl, hb, rfl⟩; obtain rfl := hb.2 Hp.out; clear hb) | (go_at_call 27; refine (within_f _ ?_).mono ?_; (focus omega); rintro e w1 ⟨rfl, rfl⟩))
      go_ret
      exact ⟨_, [], rfl, by rw [H.out]; exact Lss.nil _ _, Below.refl _ _⟩
  · have H := Lib.hid (allC_f (n := n) (.inl hp))
    have Hp := Lib.hid hp
    clear hp
    go_enter Tryd.func15, Tryd.ntmps15
    go_wp2_with (first | (go_at_call 26; refine (patternOk_c p _ _ Hv.out).mono ?_; rintro e w1 ⟨b, rfl, hb, rfl⟩; obtain rfl := bool_f hb Hp.out; clear hb))
    go_ret
    exact ⟨_, [], rfl, by rw [H.out]; exact Lss.nil _ _, Below.refl _ _⟩
end Go.Proofs.YtpnbcgnbkanebaaDoor
