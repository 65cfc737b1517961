/- Plain facts: polynomials modulo two: the product is bilinear, the rest is linear. -/
import Derived.Test.YtgjpepgjlocfkaaPureD
namespace Go.Proofs.Ytgjpepgjlocfkaa
theorem xor_self_cancel (a b : Nat) : (a ^^^ b) ^^^ b = a := by rw [Nat.xor_assoc, Nat.xor_self, Nat.xor_zero]
theorem lin_ind {P : Nat → Prop} {n : Nat} (h0 : P 0) (hx : ∀ a b, P a → P b → P (a ^^^ b)) (hp : ∀ i, i < n → P (2 ^ i)) : ∀ a, a < 2 ^ n → P a := by
  induction n with
  | zero => intro a ha; rw [show a = 0 by simpa using ha]; exact h0
  | succ n ih =>
    intro a ha
    have ih' := ih fun i hi => hp i (by omega)
    by_cases hb : a.testBit n = true
    · have h1 : a ^^^ 2 ^ n < 2 ^ n := by
        apply Nat.lt_pow_two_of_testBit
        intro i hi
        rw [Nat.testBit_xor, Nat.testBit_two_pow]
        by_cases e : n = i
        · subst e; rw [hb]; simp
        · rw [Nat.testBit_lt_two_pow (Nat.lt_of_lt_of_le ha (Nat.pow_le_pow_right (by decide) (by omega)))]; simp [e]
      rw [← xor_self_cancel a (2 ^ n)]
      exact hx _ _ (ih' _ h1) (hp n (by omega))
    · refine ih' a (Nat.lt_pow_two_of_testBit _ fun i hi => ?_)
      by_cases e : i = n
      · subst e; simpa using hb
      · exact Nat.testBit_lt_two_pow (Nat.lt_of_lt_of_le ha (Nat.pow_le_pow_right (by decide) (by omega)))
theorem mul_xor (a b n : Nat) : (a ^^^ b) * 2 ^ n = a * 2 ^ n ^^^ b * 2 ^ n := by
  rw [← Nat.shiftLeft_eq, ← Nat.shiftLeft_eq, ← Nat.shiftLeft_eq, Nat.shiftLeft_xor_distrib]
theorem ts_xor_l (a b c n : Nat) : ts (a ^^^ b) c n = ts a c n ^^^ ts b c n := by
  induction n with
  | zero => simp [ts]
  | succ n ih =>
    rw [ts, ts, ts, ih]
    split
    · rw [mul_xor]; ac_rfl
    · simp
theorem ts_xor_r (a b c n : Nat) : ts a (b ^^^ c) n = ts a b n ^^^ ts a c n := by
  induction n with
  | zero => simp [ts]
  | succ n ih =>
    rw [ts, ts, ts, ih]
    simp only [bit_of, Nat.testBit_xor]
    cases hb : b.testBit n <;> cases hc : c.testBit n <;> simp
    · ac_rfl
    · ac_rfl
    · rw [show ts a b n ^^^ a * 2 ^ n ^^^ (ts a c n ^^^ a * 2 ^ n) = (ts a b n ^^^ ts a c n) ^^^ (a * 2 ^ n ^^^ a * 2 ^ n) by ac_rfl, Nat.xor_self, Nat.xor_zero]
theorem ts_zero_r (a n : Nat) : ts a 0 n = 0 := by
  induction n with
  | zero => rfl
  | succ n ih => rw [ts, ih]; simp
theorem ts_zero_l (a n : Nat) : ts 0 a n = 0 := by
  induction n with
  | zero => rfl
  | succ n ih => rw [ts, ih]; simp
theorem ts_pow_r0 (a i n : Nat) (h : n ≤ i) : ts a (2 ^ i) n = 0 := by
  induction n with
  | zero => rfl
  | succ n ih =>
    rw [ts, ih (by omega)]
    simp only [bit_of, Nat.testBit_two_pow]
    simp [show ¬ i = n by omega]
theorem ts_pow_r {a i n : Nat} (h : i < n) : ts a (2 ^ i) n = a * 2 ^ i := by
  induction n with
  | zero => omega
  | succ n ih =>
    rw [ts]
    simp only [bit_of, Nat.testBit_two_pow]
    by_cases e : i = n
    · subst e; rw [ts_pow_r0 _ _ _ (Nat.le_refl _)]; simp
    · rw [ih (by omega)]; simp [e]
theorem ts_pow_l {b n : Nat} (h : b < 2 ^ n) (i : Nat) : ts (2 ^ i) b n = b * 2 ^ i := by
  revert h b
  refine fun {b} h => lin_ind (P := fun b => ts (2 ^ i) b n = b * 2 ^ i) ?_ ?_ ?_ b h
  · rw [ts_zero_r]; simp
  · intro a b ha hb; rw [ts_xor_r, ha, hb, mul_xor]
  · intro j hj; rw [ts_pow_r hj]; rw [Nat.mul_comm]
theorem ts_comm {a b n : Nat} (ha : a < 2 ^ n) (hb : b < 2 ^ n) : ts a b n = ts b a n := by
  refine lin_ind (P := fun b => ts a b n = ts b a n) ?_ ?_ ?_ b hb
  · rw [ts_zero_r, ts_zero_l]
  · intro b c h1 h2; rw [ts_xor_r, ts_xor_l, h1, h2]
  · intro i hi; rw [ts_pow_r hi, ts_pow_l ha]
/-- the rest of the long division -/
def rK (b n : Nat) : Nat → Nat → Nat
  | 0, a => a
  | K + 1, a => rK b n K (if a.testBit (K + n - 1) = true then a ^^^ (b * 2 ^ K) else a)
theorem dloop_snd (b n K : Nat) : ∀ q a, (dloop b n K (q, a)).2 = rK b n K a := by
  induction K with
  | zero => intro q a; rfl
  | succ K ih =>
    intro q a
    rw [dloop, rK, dstep]
    split <;> exact ih _ _
theorem rK_xor (b n K : Nat) : ∀ a c, rK b n K (a ^^^ c) = rK b n K a ^^^ rK b n K c := by
  induction K with
  | zero => intro a c; rfl
  | succ K ih =>
    intro a c
    rw [rK, rK, rK, ← ih]
    congr 1
    rw [Nat.testBit_xor]
    cases ha : a.testBit (K + n - 1) <;> cases hc : c.testBit (K + n - 1) <;> simp
    · ac_rfl
    · ac_rfl
    · rw [show a ^^^ b * 2 ^ K ^^^ (c ^^^ b * 2 ^ K) = (a ^^^ c) ^^^ (b * 2 ^ K ^^^ b * 2 ^ K) by ac_rfl, Nat.xor_self, Nat.xor_zero]
theorem rK_zero (b n K : Nat) : rK b n K 0 = 0 := by
  induction K with
  | zero => rfl
  | succ K ih => rw [rK]; simp [ih]
theorem rK_skip {b n K j a : Nat} (hj : j ≤ K) (hn : 1 ≤ n) (ha : a < 2 ^ (j + n - 1)) : rK b n K a = rK b n j a := by
  rw [← dloop_snd b n K 0, ← dloop_snd b n j 0, dloop_skip hj hn ha]
theorem rK_shift {b n K i : Nat} (hn : 1 ≤ n) (hb : b < 2 ^ n) (ht : b.testBit (n - 1) = true) (hi : i < K) : rK b n K (b * 2 ^ i) = 0 := by
  have h1 : b * 2 ^ i < 2 ^ (i + 1 + n - 1) := by
    rw [show i + 1 + n - 1 = n + i by omega, Nat.pow_add]
    exact Nat.mul_lt_mul_of_pos_right hb (Nat.two_pow_pos _)
  rw [rK_skip (j := i + 1) (by omega) hn h1, rK]
  rw [if_pos, Nat.xor_self, rK_zero]
  rw [Nat.testBit_mul_two_pow, show i + n - 1 - i = n - 1 by omega, ht]
  simp; omega
theorem rK_ts {b n K m a : Nat} (hn : 1 ≤ n) (hb : b < 2 ^ n) (ht : b.testBit (n - 1) = true) (hm : m ≤ K) (ha : a < 2 ^ m) : rK b n K (ts b a m) = 0 := by
  refine lin_ind (P := fun a => rK b n K (ts b a m) = 0) ?_ ?_ ?_ a ha
  · rw [ts_zero_r, rK_zero]
  · intro x y hx hy; rw [ts_xor_r, rK_xor, hx, hy]; rfl
  · intro i hi; rw [ts_pow_r hi]; exact rK_shift hn hb ht (by omega)
theorem rest_eq {a b K : Nat} (ha : a < 2 ^ 62) (hb : b < 2 ^ 62) (hb0 : 0 < b) (hK : a < 2 ^ (K + Lib.bitLen b - 1)) : (divTwo a b).2 = rK b (Lib.bitLen b) K a := by
  have hn := (bl_pos (x := b) (by omega) hb0).1
  have hs := divTwo_start (a := a) (b := b) ha hb hb0
  unfold divTwo
  rw [dloop_snd]
  rcases Nat.le_total (Lib.bitLen a + 1 - Lib.bitLen b) K with h | h
  · exact (rK_skip h hn hs).symm
  · exact rK_skip h hn hK
theorem bl_top {b : Nat} (hb : b < 2 ^ 62) (hb0 : 0 < b) : b.testBit (Lib.bitLen b - 1) = true := by
  obtain ⟨h1, h2⟩ := bl_pos (x := b) (by omega) hb0
  exact top_bit h2 (by rw [show Lib.bitLen b - 1 + 1 = Lib.bitLen b by omega]; exact bl_lt (by omega))
/-- the ring's laws, as FnModulo asks them -/
theorem rest_xor {x y b : Nat} (hx : x < 2 ^ 41) (hy : y < 2 ^ 41) (hb : b < 2 ^ 20) (hb0 : 0 < b) : (divTwo (x ^^^ y) b).2 = (divTwo x b).2 ^^^ (divTwo y b).2 := by
  have hn := (bl_pos (x := b) (by omega) hb0).1
  have hxy : x ^^^ y < 2 ^ 41 := Nat.xor_lt_two_pow hx hy
  have hp : 2 ^ 41 ≤ 2 ^ (41 + Lib.bitLen b - 1) := Nat.pow_le_pow_right (by decide) (by omega)
  rw [rest_eq (K := 41) (by omega) (by omega) hb0 (by omega), rest_eq (K := 41) (a := x) (by omega) (by omega) hb0 (by omega), rest_eq (K := 41) (a := y) (by omega) (by omega) hb0 (by omega), rK_xor]
theorem rest_ts {a b : Nat} (ha : a < 2 ^ 20) (hb : b < 2 ^ 20) (hb0 : 0 < b) : (divTwo (ts b a 20) b).2 = 0 := by
  have hn := (bl_pos (x := b) (by omega) hb0).1
  have h40 := ts_lt (a := b) (b := a) (n := 20) hb (by omega)
  have hp : 2 ^ 41 ≤ 2 ^ (41 + Lib.bitLen b - 1) := Nat.pow_le_pow_right (by decide) (by omega)
  rw [rest_eq (K := 41) (by omega) (by omega) hb0 (by omega)]
  exact rK_ts hn (bl_lt (by omega)) (bl_top (by omega) hb0) (by omega) ha
/-- the mask of the list of a mask -/
theorem maskGo_app (m : Nat) (l t : List Int) : maskGo m (l ++ t) = (maskGo m l).bind fun k => maskGo k t := by
  induction l generalizing m with
  | nil => rfl
  | cons x l ih =>
    rw [List.cons_append, maskGo, maskGo]
    split
    · exact ih _
    · rfl
theorem mod_succ (m n : Nat) : m % 2 ^ (n + 1) = m % 2 ^ n + 2 ^ n * (m / 2 ^ n % 2) := by
  rw [Nat.pow_succ, Nat.mod_mul]
theorem maskGo_loB (m n : Nat) (hn : n ≤ 41) : maskGo 0 (loB m n) = some (m % 2 ^ n) := by
  induction n with
  | zero => simp [loB, maskGo, Nat.mod_one]
  | succ n ih =>
    rw [loB, maskGo_app, ih (by omega)]
    have hlt : m % 2 ^ n < 2 ^ n := Nat.mod_lt _ (Nat.two_pow_pos _)
    have hle : 2 ^ n ≤ 2 ^ 40 := Nat.pow_le_pow_right (by decide) (by omega)
    show maskGo (m % 2 ^ n) _ = _
    by_cases h : m / 2 ^ n % 2 = 1
    · rw [if_pos h, maskGo, if_pos ⟨by omega, by omega, by rw [Int.toNat_natCast, Nat.div_eq_of_lt hlt]; decide⟩, maskGo, Int.toNat_natCast]
      rw [or_pow (by omega) (by omega) (by rw [Nat.div_eq_of_lt hlt]; decide), mod_succ, h, Nat.mul_one]
    · rw [if_neg h, maskGo, mod_succ, show m / 2 ^ n % 2 = 0 by omega, Nat.mul_zero, Nat.add_zero]
theorem mask_list {m : Nat} (h : m < 2 ^ 41) : maskI (listI m) = m := by
  rw [listI_in (by omega)]
  apply maskI_some
  rw [maskGo_loB m 41 (Nat.le_refl _), Nat.mod_eq_of_lt h]
end Go.Proofs.Ytgjpepgjlocfkaa
