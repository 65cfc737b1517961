/- Contracts: PolyRhythm on both sides. -/
import Derived.Test.YtnbfcdanpplllaaFjoin
import Derived.Test.YtnbfcdanpplllaaFgcd
namespace Go.Proofs.Ytnbfcdanpplllaa
open Go.RowKit
theorem cpN_mod {k m : Nat} (hk : 1 ≤ k) (hm : 1 ≤ m) : cpN k m % k = 0 ∧ cpN k m % m = 0 ∧ 1 ≤ cpN k m := by
  obtain ⟨a, ha⟩ := Nat.gcd_dvd_left k m
  obtain ⟨b, hb⟩ := Nat.gcd_dvd_right k m
  have hg : 1 ≤ Nat.gcd k m := Nat.gcd_pos_of_pos_left m (by omega)
  have hd : k / Nat.gcd k m = a := by
    generalize Nat.gcd k m = g at *
    rw [ha]; exact Nat.mul_div_cancel_left _ (by omega)
  unfold cpN
  rw [hd]
  refine ⟨?_, Nat.mul_mod_left _ _, ?_⟩
  · generalize Nat.gcd k m = g at *
    have e : a * m = k * b := by rw [ha, hb]; rw [← Nat.mul_assoc, Nat.mul_comm a g]
    rw [e]; exact Nat.mul_mod_right _ _
  · have ha1 : 1 ≤ a := by
      rcases Nat.eq_zero_or_pos a with h | h
      · rw [h, Nat.mul_zero] at ha; omega
      · exact h
    have := Nat.mul_le_mul ha1 hm
    omega
theorem cpI_pos {k m : Int} (h : ¬ cpI k m = 0) : ∃ a b n : Nat, k = a ∧ m = b ∧ cpI k m = n ∧ 1 ≤ a ∧ a ≤ 12 ∧ 1 ≤ b ∧ b ≤ 12 ∧ 1 ≤ n ∧ n ≤ 24 ∧ n % a = 0 ∧ n % b = 0 ∧ n = cpN a b := by
  unfold cpI at *
  by_cases hc : 1 ≤ k ∧ k ≤ 12 ∧ 1 ≤ m ∧ m ≤ 12 ∧ cpN k.toNat m.toNat ≤ 24
  · rw [if_pos hc]
    obtain ⟨h1, h2, h3⟩ := cpN_mod (k := k.toNat) (m := m.toNat) (by omega) (by omega)
    exact ⟨k.toNat, m.toNat, cpN k.toNat m.toNat, by omega, by omega, rfl, by omega, by omega, by omega, by omega, h3, by omega, h1, h2, rfl⟩
  · rw [if_neg hc] at h
    exact absurd rfl h
theorem cpI_nonneg (k m : Int) : 0 ≤ cpI k m ∧ cpI k m ≤ 24 := by
  unfold cpI
  split <;> omega
def polB (k m : Int) : Bool := decide (¬ cpI k m = 0)
def polL (k m : Int) : List Int := if cpI k m = 0 then [] else rhL (cpI k m).toNat (layN k.toNat (cpI k m).toNat k.toNat ++ layN m.toNat (cpI k m).toNat m.toNat)
theorem pol_f {k m : Int} (h : cpI k m = 0) : polB k m = false ∧ polL k m = [] := by
  unfold polB polL
  rw [if_pos h]
  exact ⟨by simp [h], rfl⟩
theorem pol_t {a b n : Nat} (h : cpI a b = (n : Int)) (hn : 1 ≤ n) : polB a b = true ∧ polL a b = rhL n (layN a n a ++ layN b n b) := by
  unfold polB polL
  rw [h, if_neg (by omega)]
  exact ⟨by simp; omega, by simp⟩
theorem polL_len (k m : Int) : (polL k m).length ≤ 1000000 := by
  unfold polL
  split
  · exact Nat.zero_le _
  · have := rhL_len (cpI k m).toNat (layN k.toNat (cpI k m).toNat k.toNat ++ layN m.toNat (cpI k m).toNat m.toNat)
    have := cpI_nonneg k m
    omega
theorem lay_ok {a n : Nat} (ha : 1 ≤ a) (hn : 1 ≤ n) (hn2 : n ≤ 24) (hd : n % a = 0) : RhyOk n (layN a n a) := by
  rw [layN_eq']
  exact ⟨by omega, layL_inc ha hn hd, fun x hx => layL_mem ha hx hn⟩
theorem lay_same {a b n : Nat} (ha : 1 ≤ a) (hb : 1 ≤ b) (hn : 1 ≤ n) (hn2 : n ≤ 24) (hd : n % a = 0) (hd2 : n % b = 0) :
    joinB n n (layN a n a) (layN b n b) = true ∧ joinN n n (layN a n a) (layN b n b) = n ∧ joinL n n (layN a n a) (layN b n b) = rhL n (layN a n a ++ layN b n b) :=
  join_t ⟨lay_ok ha hn hn2 hd, lay_ok hb hn hn2 hd2, rfl⟩
set_option maxRecDepth 100000 in
set_option maxHeartbeats 1000000 in
theorem polyRhythm_c (k m : Int) (w : World) : Calls Try.prog 6 #[.int .i64 k, .int .i64 m] w (RRB (cpI k m) (polL k m) (polB k m) w) := by
  have hv0 := RVar.new (T := 27) w 0 (.slice none 0 0)
  have hx0 := one_box w (.cells #[.int .i64 0, .slice none 0 0] 27)
  by_cases h0 : cpI k m = 0
  · have H := Lib.hid (pol_f h0)
    have H0 := Lib.hid h0
    clear h0
    go_enter Try.func6, Try.ntmps6
    go_wp2_with (first | (go_at_call 5; refine (commonPulses_c _ _ _).mono ?_; rintro e w1 ⟨rfl, hx1⟩; rw [H0.out]; have hd0 := (hv0.ext hx1).c0; have hf0 := (hv0.ext hx1).f 0; have hd1 := ((hv0.ext hx1).set0 (m := 0)).c1; have hf1 := ((hv0.ext hx1).set0 (m := 0)).f 1; have Hr := Lib.hid (ret_fin (n := 0) (B := w.heap.size + 1) (hv0.ext hx1) (Own.nil _ _) (Nat.le_refl _) (hx0.tr hx1))))
    have hcf0 := Hr.out.1.c0
    have hcf1 := Hr.out.1.c1
    exact bodyPost_ret (v := .tuple #[.agg #[.int .i64 0, .slice none 0 0], .bool false]) (by simp [results, Try.results6, hcf0, hcf1, go_sem]) rfl ⟨_, by rw [H0.out, H.out.1], by rw [H.out.2]; exact Hr.out.2.1, Hr.out.2.2⟩
  · obtain ⟨a, b, n, rfl, rfl, hn, ha1, ha12, hb1, hb12, hn1, hn24, hd, hd2, -⟩ := cpI_pos h0
    have H := Lib.hid (pol_t hn hn1)
    have H0 := Lib.hid hn
    have HJ := Lib.hid (lay_same ha1 hb1 hn1 hn24 hd hd2)
    have Hla := Lib.hid (show rhL n (layN a n a) = layN a n a by rw [layN_eq']; exact layL_rh ha1 hn1 hd)
    have Hlb := Lib.hid (show rhL n (layN b n b) = layN b n b by rw [layN_eq']; exact layL_rh hb1 hn1 hd2)
    have hnz : ((n : Int) == 0) = false := by rw [beq_eq_false_iff_ne]; omega
    clear h0 hd hd2 hn
    go_enter Try.func6, Try.ntmps6
    go_wp2_with (first | (go_at_call 5; refine (commonPulses_c _ _ _).mono ?_; rintro e w1 ⟨rfl, hx1⟩; rw [H0.out]))
    have tok : True := trivial
    go_wp2_with (first | (go_at_call 22; clear tok; refine (layer_c a n _ (by omega) (by omega) (by omega)).mono ?_; rintro e w2 ⟨u2, rfl, ho2, hx2⟩; (first | rw [Hla.out] at ho2 | skip); obtain ⟨A2, n2, c2, rfl⟩ := ho2.form))
    have tok : True := trivial
    go_wp2_with (first | (go_at_call 22; clear tok; refine (layer_c b n _ (by omega) (by omega) (by omega)).mono ?_; rintro e w3 ⟨u3, rfl, ho3, hx3⟩; (first | rw [Hlb.out] at ho3 | skip); obtain ⟨A3, n3, c3, rfl⟩ := ho3.form))
    go_wp2_with (first | (go_at_call 13; refine (joinRhythms_c (n : Int) (n : Int) (layN a n a) (layN b n b) _ _ _ (ho2.ext hx3).ints ho3.ints).mono ?_; rintro e w4 ⟨u4, rfl, ho4, hx4⟩; rw [HJ.out.1, HJ.out.2.1]; rw [HJ.out.2.2] at ho4; obtain ⟨A4, n4, c4, rfl⟩ := ho4.form; have hx5 := hx1.tr (hx2.tr (hx3.tr hx4)); have hz := Nat.le_trans hv0.lt (hx1.tr (hx2.tr hx3)).size; have Hr := Lib.hid (ret_fin (n := (n : Int)) (hv0.ext hx5) ho4 hz (hx0.tr hx5)); have hd0 := (hv0.ext hx5).c0; have hf0 := (hv0.ext hx5).f 0; have hd1 := ((hv0.ext hx5).set0 (m := (n : Int))).c1; have hf1 := ((hv0.ext hx5).set0 (m := (n : Int))).f 1))
    have hcf0 := Hr.out.1.c0
    have hcf1 := Hr.out.1.c1
    exact bodyPost_ret (v := .tuple #[.agg #[.int .i64 n, .slice A4 n4 c4], .bool true]) (by simp [results, Try.results6, hcf0, hcf1, go_sem]) rfl ⟨_, by rw [H0.out, H.out.1], by rw [H.out.2]; exact Hr.out.2.1, Hr.out.2.2⟩
end Go.Proofs.Ytnbfcdanpplllaa
