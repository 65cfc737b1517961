/- Contracts: LayerOf on both sides. -/
import Derived.Test.YtnbfcdanpplllaaFof
import Derived.Test.YtnbfcdanpplllaaFa
namespace Go.Proofs.Ytnbfcdanpplllaa
open Go.RowKit
def lyrOk (k n : Int) : Prop := (1 ≤ n ∧ n ≤ 24) ∧ 1 ≤ k ∧ n % k = 0
instance (k n : Int) : Decidable (lyrOk k n) := by unfold lyrOk; infer_instance
def lyrB (k n : Int) : Bool := decide (lyrOk k n)
def lyrN (k n : Int) : Int := if lyrOk k n then n else 0
def lyrL (k n : Int) : List Int := if lyrOk k n then layN k.toNat n.toNat k.toNat else []
theorem lyr_t {k n : Nat} (h : lyrOk k n) : lyrB k n = true ∧ lyrN k n = n ∧ lyrL k n = layN k n k := by
  unfold lyrB lyrN lyrL
  rw [if_pos h, if_pos h]
  exact ⟨by simpa using h, rfl, by simp⟩
theorem lyr_f {k n : Int} (h : ¬ lyrOk k n) : lyrB k n = false ∧ lyrN k n = 0 ∧ lyrL k n = [] := by
  unfold lyrB lyrN lyrL
  rw [if_neg h, if_neg h]
  exact ⟨by simpa using h, rfl, rfl⟩
theorem lyr_pos {k n : Int} (h : lyrOk k n) : ∃ a b : Nat, k = a ∧ n = b ∧ 1 ≤ a ∧ a ≤ b ∧ 1 ≤ b ∧ b ≤ 24 ∧ b % a = 0 := by
  obtain ⟨⟨h1, h2⟩, h3, h4⟩ := h
  refine ⟨k.toNat, n.toNat, by omega, by omega, by omega, ?_, by omega, by omega, ?_⟩
  · have : k ≤ n := Int.le_of_dvd (by omega) (Int.dvd_of_emod_eq_zero h4)
    omega
  · obtain ⟨a, rfl⟩ := Int.eq_ofNat_of_zero_le (show 0 ≤ k by omega)
    obtain ⟨b, rfl⟩ := Int.eq_ofNat_of_zero_le (show 0 ≤ n by omega)
    simp only [Int.toNat_natCast]
    omega
theorem lyrL_len (k n : Int) : (lyrL k n).length ≤ 1000000 := by
  unfold lyrL
  split
  · rename_i h; obtain ⟨a, b, rfl, rfl, _⟩ := lyr_pos h; rw [layN_len]; omega
  · exact Nat.zero_le _
theorem RRB.end_ {w wr : World} {n : Int} {b : Bool} {l : List Int} {v : Value} {A : Option Addr} (ho : Own wr w.heap.size v l) (hx : Ext w wr) : RRB n l b w (.returned (.tuple #[.agg #[.int .i64 n, v], .bool b])) wr := ⟨_, rfl, ho, hx⟩
theorem layerOf_c (k n : Int) (w : World) : Calls Try.prog 12 #[.int .i64 k, .int .i64 n] w (RRB (lyrN k n) (lyrL k n) (lyrB k n) w) := by
  have hv0 := RVar.new (T := 27) w 0 (.slice none 0 0)
  by_cases hok : lyrOk k n
  · obtain ⟨a, b, rfl, rfl, ha1, hab, hb1, hb24, hmod⟩ := lyr_pos hok
    have H := Lib.hid (lyr_t hok)
    have hrem : ((b : Int) % (a : Int)) = 0 := by omega
    have hbz : (((b : Int) % (a : Int)) != 0) = false := by rw [hrem]; rfl
    have HlayS : Hid (layN a b a = rhL b (layN a b a)) := (layL_rh ha1 hb1 hmod).symm
    have ha1i : (1 : Int) ≤ (a : Int) := by omega
    have ha0 : ¬ a = 0 := by omega
    clear hok hmod hrem
    have hz := hv0.lt
    go_enter Try.func12, Try.ntmps12
    go_wp2_with (first | (go_at_call 20; refine (within_t _ ?_).mono ?_; (focus omega); rintro e w1 ⟨rfl, rfl⟩) | (go_at_call 20; refine (within_f _ ?_).mono ?_; (focus omega); rintro e w1 ⟨rfl, rfl⟩) | (go_at_call 22; refine (layer_c a b _ (by omega) (by omega) (by omega)).mono ?_; rintro e w2 ⟨u2, rfl, ho2, hx2⟩; obtain ⟨Au, nu, cu, rfl⟩ := ho2.form; have hx0 := Ext.tr ((Below.refl w.heap.size w).alloc (Nat.le_refl _) _) hx2; have Hr := Lib.hid (ret_fin (n := (b : Int)) (hv0.ext hx2) ho2 hz hx0); have hd0 := (hv0.ext hx2).c0; have hf0 := (hv0.ext hx2).f 0; have hd1 := ((hv0.ext hx2).set0 (m := (b : Int))).c1; have hf1 := ((hv0.ext hx2).set0 (m := (b : Int))).f 1))
    have hcf0 := Hr.out.1.c0
    have hcf1 := Hr.out.1.c1
    refine bodyPost_ret (v := .tuple #[.agg #[.int .i64 b, .slice Au nu cu], .bool true]) (by simp [results, Try.results12, hcf0, hcf1, go_sem]) rfl ⟨_, by rw [H.out.1, H.out.2.1], by rw [H.out.2.2]; first | exact Hr.out.2.1 | (rw [HlayS.out]; exact Hr.out.2.1), Hr.out.2.2⟩
  · have H := Lib.hid (lyr_f hok)
    have hcf0 := hv0.c0
    have hcf1 := hv0.c1
    have hfin : Hid (RRB (lyrN k n) (lyrL k n) (lyrB k n) w (.returned (.tuple #[.agg #[.int .i64 0, .slice none 0 0], .bool false])) (w.alloc (.cells #[.int .i64 0, .slice none 0 0] 27))) :=
      ⟨_, by rw [H.out.1, H.out.2.1], by rw [H.out.2.2]; exact Own.nil _ _, (Below.refl _ _).alloc (Nat.le_refl _) _⟩
    by_cases hn : 1 ≤ n ∧ n ≤ 24
    · by_cases hk : 1 ≤ k
      · have hmod : ¬ n % k = 0 := fun h => hok ⟨hn, hk, h⟩
        have hbz : ((n % k) != 0) = true := by rw [bne_iff_ne]; exact hmod
        have hk0 : ¬ k = 0 := by omega
        clear hok hmod
        by_cases hkn : k ≤ n
        · go_enter Try.func12, Try.ntmps12
          go_wp2_with (first | (go_at_call 20; refine (within_t _ ?_).mono ?_; (focus omega); rintro e w1 ⟨rfl, rfl⟩) | (go_at_call 20; refine (within_f _ ?_).mono ?_; (focus omega); rintro e w1 ⟨rfl, rfl⟩))
          exact bodyPost_ret (v := .tuple #[.agg #[.int .i64 0, .slice none 0 0], .bool false]) (by simp [results, Try.results12, hcf0, hcf1, go_sem]) rfl hfin.out
        · go_enter Try.func12, Try.ntmps12
          go_wp2_with (first | (go_at_call 20; refine (within_t _ ?_).mono ?_; (focus omega); rintro e w1 ⟨rfl, rfl⟩) | (go_at_call 20; refine (within_f _ ?_).mono ?_; (focus omega); rintro e w1 ⟨rfl, rfl⟩))
          exact bodyPost_ret (v := .tuple #[.agg #[.int .i64 0, .slice none 0 0], .bool false]) (by simp [results, Try.results12, hcf0, hcf1, go_sem]) rfl hfin.out
      · clear hok
        have hk1 : decide (k < 1) = true := by simp; omega
        go_enter Try.func12, Try.ntmps12
        go_wp2_with (first | (go_at_call 20; refine (within_t _ ?_).mono ?_; (focus omega); rintro e w1 ⟨rfl, rfl⟩) | (go_at_call 20; refine (within_f _ ?_).mono ?_; (focus omega); rintro e w1 ⟨rfl, rfl⟩))
        exact bodyPost_ret (v := .tuple #[.agg #[.int .i64 0, .slice none 0 0], .bool false]) (by simp [results, Try.results12, hcf0, hcf1, go_sem]) rfl hfin.out
    · clear hok
      go_enter Try.func12, Try.ntmps12
      go_wp2_with (first | (go_at_call 20; refine (within_t _ ?_).mono ?_; (focus omega); rintro e w1 ⟨rfl, rfl⟩) | (go_at_call 20; refine (within_f _ ?_).mono ?_; (focus omega); rintro e w1 ⟨rfl, rfl⟩))
      exact bodyPost_ret (v := .tuple #[.agg #[.int .i64 0, .slice none 0 0], .bool false]) (by simp [results, Try.results12, hcf0, hcf1, go_sem]) rfl hfin.out
end Go.Proofs.Ytnbfcdanpplllaa
