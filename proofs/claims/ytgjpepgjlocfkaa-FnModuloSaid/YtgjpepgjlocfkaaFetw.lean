/- Contracts: EntriesTwo and LeastTwo on both sides. -/
import Derived.Test.YtgjpepgjlocfkaaFdiv
import Derived.Test.YtgjpepgjlocfkaaFlin
import Derived.Test.YtgjpepgjlocfkaaPureO
import Derived.Test.YtgjpepgjlocfkaaFent
namespace Go.Proofs.Ytgjpepgjlocfkaa
open Go.RowKit
/-- quotient and rest of 2 ^ n - 1 by the pattern's mask -/
def etwD (l : List Int) (n : Int) : Nat × Nat := divTwo (2 ^ n.toNat - 1) (maskN l)
def etwOk (l : List Int) (n : Int) : Bool := patB l && decide (1 ≤ n ∧ n ≤ 40) && (etwD l n).2 == 0
def etwL (l : List Int) (n : Int) : List Int := if etwOk l n = true then listI (etwD l n).1 else []
theorem etw_f {l : List Int} {n : Int} (h : ¬ (PatOk l ∧ 1 ≤ n ∧ n ≤ 40)) : etwL l n = [] ∧ etwOk l n = false := by
  have h1 : etwOk l n = false := by
    unfold etwOk
    by_cases hp : PatOk l
    · have : ¬ (1 ≤ n ∧ n ≤ 40) := fun h' => h ⟨hp, h'⟩
      simp [this]
    · rw [patB_f hp]; rfl
  exact ⟨by unfold etwL; rw [h1]; rfl, h1⟩
theorem etw_r {l : List Int} {n : Nat} {q r : Nat} (hd : divTwo (2 ^ n - 1) (maskN l) = (q, r)) (hr : ¬ r = 0) : etwL l n = [] ∧ etwOk l n = false := by
  have h1 : etwOk l n = false := by
    unfold etwOk etwD
    rw [Int.toNat_natCast, hd]
    simp [hr]
  exact ⟨by unfold etwL; rw [h1]; rfl, h1⟩
theorem etw_t {l : List Int} {n : Nat} {q r : Nat} (hp : PatOk l) (hn : 1 ≤ n ∧ n ≤ 40) (hd : divTwo (2 ^ n - 1) (maskN l) = (q, r)) (hr : r = 0) : etwL l n = listI q ∧ etwOk l n = true := by
  have h1 : etwOk l n = true := by
    unfold etwOk etwD
    rw [Int.toNat_natCast, hd, patB_t hp]
    simp [hr]
    omega
  refine ⟨?_, h1⟩
  unfold etwL
  rw [h1, if_pos rfl]
  unfold etwD
  rw [Int.toNat_natCast, hd]
theorem below_drewN' {w w' : World} {n : Nat} (h : Ext (w.drewN n) w') : Ext w w' := ⟨h.os, h.tape, h.output, h.size, h.block⟩
theorem etwL_len (l : List Int) (n : Int) : (etwL l n).length ≤ 1000000 := by
  unfold etwL
  split
  · have := listI_len ((etwD l n).1 : Int); omega
  · exact Nat.zero_le _
set_option maxHeartbeats 1000000 in
theorem entriesTwo_c (l : List Int) (n : Int) (v : Value) (w : World) (hv : Ints w v l) : Calls Try.prog 11 #[v, .int .i64 n] w (RLB (etwL l n) (etwOk l n) w) := by
  have Hv := Lib.hid hv
  clear hv
  by_cases hp : PatOk l
  · have Hp := Lib.hid hp
    by_cases hn : 1 ≤ n ∧ n ≤ 40
    · obtain ⟨n, rfl⟩ := Int.eq_ofNat_of_zero_le (show 0 ≤ n by omega)
      have hm := maskN_lt hp
      have hm0 : 0 < maskN l := by have := maskN_odd hp; omega
      obtain ⟨q, r, hd⟩ : ∃ q r, divTwo (2 ^ n - 1) (maskN l) = (q, r) := ⟨_, _, rfl⟩
      have HR := Lib.hid (fun hr : ¬ r = 0 => etw_r (l := l) hd hr)
      have HT := Lib.hid (fun hr : r = 0 => etw_t hp (by omega) hd hr)
      have Hm0 := maskI_pat hp
      have hn40 : 1 ≤ n ∧ n ≤ 40 := by omega
      have hz0 : 0 < 2 ^ n := Nat.two_pow_pos _
      have hzl : 2 ^ n ≤ 1099511627776 := Nat.pow_le_pow_right (n := 2) (by decide) (show n ≤ 40 by omega)
      have hzw : IntKind.i64.wrap ((2 : Int) ^ n) = ((2 ^ n : Nat) : Int) := by rw [show (2 : Int) ^ n = ((2 ^ n : Nat) : Int) by rw [Int.natCast_pow]; rfl]; exact wrap_nat (by omega)
      have hni : (0 : Int) ≤ (n : Int) := by omega
      generalize 2 ^ n = z at *
      obtain ⟨y, hy⟩ : ∃ y, y = z - 1 := ⟨_, rfl⟩
      rw [← hy] at hd
      have hyw : IntKind.i64.wrap ((z : Int) - 1) = (y : Int) := by rw [show (z : Int) - 1 = (y : Int) by omega]; exact wrap_nat (by omega)
      have hyl : y < 4398046511104 := by omega
      generalize hme : maskN l = m at *
      have Hme := Lib.hid hme
      have Hm := Lib.hid Hm0
      have Hd := Lib.hid hd
      have HM : Hid (∀ w', Ints w' v l → Calls Try.prog 7 #[v] w' fun e w'' => e = .returned (.int .i64 m) ∧ w'' = w') := fun w' h => (maskOf_c l v w' h).mono fun e w'' ⟨he, hw⟩ => ⟨by rw [he, Hm.out], hw.symm⟩
      have HD : Hid (∀ w', Calls Try.prog 18 #[.int .i64 y, .int .i64 m] w' fun e w'' => e = .returned (.tuple #[.int .i64 q, .int .i64 r]) ∧ w'' = w') := fun w' => (dividedTwo_c y m hyl (by omega) hm0 w').mono fun e w'' ⟨he, hw⟩ => ⟨by rw [he, Hd.out], hw.symm⟩
      clear hp hn hme hy hd Hm0
      by_cases hr : r = 0
      · have H := Lib.hid (HT.out hr)
        subst hr
        go_enter Try.func11, Try.ntmps11
        go_wp2_with (first | (go_at_call 20; refine (patternOk_c l _ _ Hv.out).mono ?_; rintro e w1 ⟨b, rfl, hb, rfl⟩; obtain rfl := hb.2 Hp.out; clear hb) | (go_at_call 17; refine (within_t _ ?_).mono ?_; (focus omega); rintro e w1 ⟨rfl, rfl⟩) | (go_at_call 17; refine (within_f _ ?_).mono ?_; (focus omega); rintro e w1 ⟨rfl, rfl⟩))
        go_quiet (first | (go_at_call 7; exact Calls.quiet_of_same (HM.out _ (Hv.out.drewN _))) | (go_at_call 18; exact Calls.quiet_of_same (HD.out _)))
        go_wp2_with (first | (go_at_call 8; refine (listOf_c ((q : Nat) : Int) _).mono ?_; rintro e w2 ⟨v2, rfl, ho, hx⟩))
        go_ret2
        exact ⟨_, by rw [H.out.2]; rfl, by rw [H.out.1]; exact ho, below_drewN' hx⟩
      · have H := Lib.hid (HR.out hr)
        have hrb : ((r : Int) != 0) = true := by rw [bne_iff_ne]; omega
        clear hr
        go_enter Try.func11, Try.ntmps11
        go_wp2_with (first | (go_at_call 20; refine (patternOk_c l _ _ Hv.out).mono ?_; rintro e w1 ⟨b, rfl, hb, rfl⟩; obtain rfl := hb.2 Hp.out; clear hb) | (go_at_call 17; refine (within_t _ ?_).mono ?_; (focus omega); rintro e w1 ⟨rfl, rfl⟩) | (go_at_call 17; refine (within_f _ ?_).mono ?_; (focus omega); rintro e w1 ⟨rfl, rfl⟩))
        go_quiet (first | (go_at_call 7; exact Calls.quiet_of_same (HM.out _ (Hv.out.drewN _))) | (go_at_call 18; exact Calls.quiet_of_same (HD.out _)))
        go_wp2
        go_ret2
        exact ⟨_, by rw [H.out.2]; rfl, by rw [H.out.1]; exact Own.nil _ _, below_drewN (Below.refl _ _) _⟩
    · have H := Lib.hid (etw_f (l := l) (n := n) (fun h => hn h.2))
      clear hp
      go_enter Try.func11, Try.ntmps11
      go_wp2_with (first | (go_at_call 20; refine (patternOk_c l _ _ Hv.out).mono ?_; rintro e w1 ⟨b, rfl, hb, rfl⟩; obtain rfl := hb.2 Hp.out; clear hb) | (go_at_call 17; refine (within_t _ ?_).mono ?_; (focus omega); rintro e w1 ⟨rfl, rfl⟩) | (go_at_call 17; refine (within_f _ ?_).mono ?_; (focus omega); rintro e w1 ⟨rfl, rfl⟩))
      go_ret2
      exact ⟨_, by rw [H.out.2]; rfl, by rw [H.out.1]; exact Own.nil _ _, Below.refl _ _⟩
  · have H := Lib.hid (etw_f (l := l) (n := n) (fun h => hp h.1))
    have Hp := Lib.hid hp
    clear hp
    go_enter Try.func11, Try.ntmps11
    go_wp2_with (first | (go_at_call 20; refine (patternOk_c l _ _ Hv.out).mono ?_; rintro e w1 ⟨b, rfl, hb, rfl⟩; obtain rfl := bool_f hb Hp.out; clear hb))
    go_ret2
    exact ⟨_, by rw [H.out.2]; rfl, by rw [H.out.1]; exact Own.nil _ _, Below.refl _ _⟩
end Go.Proofs.Ytgjpepgjlocfkaa
