/- Plain facts: the powers of two modulo a mask, and a pattern's mask by MaskOf. -/
import Derived.Test.YtgjpepgjlocfkaaPureD
import Derived.Test.YtgjpepgjlocfkaaPureL
import Derived.Test.YtgjpepgjlocfkaaFmask
namespace Go.Proofs.Ytgjpepgjlocfkaa

theorem maskGo_pat {l : List Int} (hp : PatOk l) : ∀ {k : Nat}, k ≤ l.length → maskGo 0 l = maskGo (pm l k) (l.drop k) := by
  intro k
  induction k with
  | zero => intro _; rw [pm_zero]; rfl
  | succ k ih =>
    intro hk
    obtain ⟨x, hx⟩ : ∃ x, l[k]? = some x := ⟨_, List.getElem?_eq_getElem (by omega)⟩
    have hx12 := hp.at_ hx
    have hlt := pm_lt hp hx
    rw [ih (by omega), drop_cons hx, maskGo_step (by omega) (by rw [Nat.div_eq_of_lt hlt]; decide), pm_or hp hx, ← pm_succ hx]
theorem maskI_pat {l : List Int} (hp : PatOk l) : maskI l = maskN l := by
  apply maskI_some
  rw [maskGo_pat hp (Nat.le_refl _), List.drop_length]
  rfl

/-- the next power of two modulo b -/
def lf (b p : Nat) : Nat := if (2 * p).testBit (Lib.bitLen b - 1) = true then (2 * p) ^^^ b else 2 * p
theorem lf_div {b p : Nat} (hb : b < 8192) (hb2 : 2 ≤ b) (hp : p < 2 ^ (Lib.bitLen b - 1)) : (divTwo (2 * p) b).2 = lf b p ∧ lf b p < 2 ^ (Lib.bitLen b - 1) := by
  obtain ⟨b1, b2⟩ := bl_pos (x := b) (by omega) (by omega)
  have b3 := bl_lt (x := b) (by omega)
  have hn13 : Lib.bitLen b ≤ 13 := bl_le (by omega) (by omega)
  have hpl : 2 ^ (Lib.bitLen b - 1) ≤ 2 ^ 12 := Nat.pow_le_pow_right (by decide) (by omega)
  have h2n : 2 ^ Lib.bitLen b = 2 ^ (Lib.bitLen b - 1) * 2 := by rw [← Nat.pow_succ]; congr 1; omega
  have hbit : Lib.bitLen (2 * p) ≤ Lib.bitLen b := bl_le (by omega) (by omega)
  by_cases hge : Lib.bitLen b ≤ Lib.bitLen (2 * p)
  · have he : Lib.bitLen (2 * p) = Lib.bitLen b := by omega
    have hp0 : 0 < 2 * p := by
      rcases Nat.eq_zero_or_pos (2 * p) with h | h
      · rw [h, bl_zero] at he; omega
      · exact h
    obtain ⟨h1, h2, h3⟩ := dloop_top (b := b) (q := 0) (a := 2 * p) (K := Lib.bitLen (2 * p) + 1 - Lib.bitLen b) (by omega) (by omega) (by omega) hp0 hge (divTwo_start (by omega) (by omega) (by omega))
    have hd : divTwo (2 * p) b = (0 ||| 2 ^ 0, (2 * p) ^^^ b) := by
      unfold divTwo
      rw [h1, he, Nat.sub_self]
      simp [dloop]
    rw [he, Nat.sub_self] at h2
    simp at h2
    have hb4 : (2 * p).testBit (Lib.bitLen b - 1) = true := by
      have a2 := (bl_pos (x := 2 * p) (by omega) hp0).2
      rw [he] at a2
      exact top_bit a2 (by rw [show Lib.bitLen b - 1 + 1 = Lib.bitLen b by omega]; omega)
    have hlf : lf b p = (2 * p) ^^^ b := by unfold lf; rw [if_pos hb4]
    rw [hd, hlf]
    exact ⟨rfl, h2⟩
  · have hlt := bl_lt (x := 2 * p) (by omega)
    have hlt2 : 2 * p < 2 ^ (Lib.bitLen b - 1) := Nat.lt_of_lt_of_le hlt (Nat.pow_le_pow_right (by decide) (by omega))
    have hd : divTwo (2 * p) b = (0, 2 * p) := by
      unfold divTwo
      exact dloop_end (by omega) (by omega) (by omega) (by omega)
    have hlf : lf b p = 2 * p := by unfold lf; rw [if_neg (by rw [Nat.testBit_lt_two_pow hlt2]; simp)]
    rw [hd, hlf]
    exact ⟨rfl, hlt2⟩
theorem div_one {b : Nat} (hb : b < 8192) (hb2 : 2 ≤ b) : (divTwo 1 b).2 = 1 := by
  have h1 : Lib.bitLen 1 = 1 := by decide
  have h2 : 2 ≤ Lib.bitLen b := by
    have := bl_lt (x := b) (by omega)
    rcases Nat.lt_or_ge (Lib.bitLen b) 2 with h | h
    · have : 2 ^ Lib.bitLen b ≤ 2 ^ 1 := Nat.pow_le_pow_right (by decide) (by omega)
      omega
    · exact h
  unfold divTwo
  rw [dloop_end (by omega) (by omega) (by omega) (by omega)]
/-- the first n with power one, from n on, f of them -/
def ordGo (b : Nat) : Nat → Nat → Nat → Nat
  | 0, _, _ => 0
  | f + 1, n, p => if lf b p = 1 then n else ordGo b f (n + 1) (lf b p)
def ordI (l : List Int) : Int := if patB l = true then (if maskN l = 1 then 1 else (ordGo (maskN l) 4095 1 1 : Nat)) else 0
theorem ordI_f {l : List Int} (h : ¬ PatOk l) : ordI l = 0 := by unfold ordI; rw [if_neg (by rw [patB_f h]; simp)]
theorem ordI_1 {l : List Int} (h : PatOk l) (h1 : maskN l = 1) : ordI l = 1 := by unfold ordI; rw [if_pos (patB_t h), if_pos h1]
theorem ordI_n {l : List Int} (h : PatOk l) (h1 : ¬ maskN l = 1) : ordI l = (ordGo (maskN l) 4095 1 1 : Nat) := by unfold ordI; rw [if_pos (patB_t h), if_neg h1]
end Go.Proofs.Ytgjpepgjlocfkaa
