/- Plain facts on the line: what is covered; the block is the least period. -/
import Derived.Test.YtpnbcgnbkanebaaDoorPureL
namespace Go.Proofs.YtpnbcgnbkanebaaDoor

theorem pm_bit {l : List Int} (hp : PatOk l) : ∀ {k : Nat}, k ≤ l.length → ∀ j, (pm l k).testBit j = true ↔ (j : Int) ∈ l.take k := by
  intro k
  induction k with
  | zero => intro _ j; rw [pm_zero]; simp
  | succ k ih =>
    intro hk j
    have hy : l[k]? = some l[k] := List.getElem?_eq_getElem (by omega)
    have h1 := hp.at_ hy
    rw [pm_succ hy, ← pm_or hp hy, Nat.testBit_or, Bool.or_eq_true, ih (by omega), take_succ hy, List.mem_append, Nat.testBit_two_pow]
    simp only [List.mem_singleton, decide_eq_true_eq]
    constructor
    · rintro (h | h)
      · exact .inl h
      · right; omega
    · rintro (h | h)
      · exact .inl h
      · right; omega
theorem mask_bit {l : List Int} (hp : PatOk l) (j : Nat) : (maskN l).testBit j = true ↔ (j : Int) ∈ l := by
  unfold maskN
  rw [pm_bit hp (Nat.le_refl _), List.take_length]

/-- time u is covered by the entries es of the mask m -/
def Cov (m : Nat) (es : List Nat) (u : Nat) : Prop := ∃ e, e ∈ es ∧ e ≤ u ∧ m.testBit (u - e) = true
theorem Cov.snoc {m : Nat} {es : List Nat} {t u : Nat} : Cov m (es ++ [t]) u ↔ Cov m es u ∨ (t ≤ u ∧ m.testBit (u - t) = true) := by
  unfold Cov
  constructor
  · rintro ⟨e, he, h1, h2⟩
    rcases List.mem_append.1 he with h | h
    · exact .inl ⟨e, h, h1, h2⟩
    · simp at h; subst h; exact .inr ⟨h1, h2⟩
  · rintro (⟨e, he, h1, h2⟩ | ⟨h1, h2⟩)
    · exact ⟨e, List.mem_append_left _ he, h1, h2⟩
    · exact ⟨t, by simp, h1, h2⟩
/-- what the state says of the times that are covered -/
def LInv (m s t : Nat) (es : List Nat) : Prop := ∀ u, Cov m es u ↔ (u < t ∨ (t ≤ u ∧ s.testBit (u - t) = true))
theorem LInv.zero (m : Nat) : LInv m 0 0 [] := by
  intro u
  simp [Cov]
theorem D_bits {z j : Nat} : z.testBit j = true ↔ (j < (D z).2 ∨ ((D z).2 ≤ j ∧ (D z).1.testBit (j - (D z).2) = true)) := by
  have h := D_eq z
  have h1 : 1 ≤ 2 ^ (D z).2 := Nat.one_le_two_pow
  have h2 : z = 2 ^ (D z).2 * (D z).1 + (2 ^ (D z).2 - 1) := by
    rw [Nat.add_mul, Nat.one_mul, Nat.mul_comm] at h
    omega
  conv => lhs; rw [h2, Nat.testBit_two_pow_mul_add _ (by omega)]
  by_cases hj : j < (D z).2
  · rw [if_pos hj, Nat.testBit_two_pow_sub_one]
    simp [hj]
  · rw [if_neg hj]
    constructor
    · intro h; exact .inr ⟨by omega, h⟩
    · rintro (h | h)
      · exact absurd h hj
      · exact h.2
theorem LInv.step {m s t : Nat} {es : List Nat} (h : LInv m s t es) (hs : s < 2 ^ 62) (hm : m < 2 ^ 62) (h0 : s &&& m = 0) : LInv m (D (s + m)).1 (t + (D (s + m)).2) (es ++ [t]) := by
  intro u
  rw [Cov.snoc, h u]
  have hor := or_add hs hm h0
  have hb : ∀ j, (s + m).testBit j = true ↔ (s.testBit j = true ∨ m.testBit j = true) := by
    intro j; rw [← hor, Nat.testBit_or, Bool.or_eq_true]
  by_cases hu : t ≤ u
  · have h1 := hb (u - t)
    rw [D_bits] at h1
    constructor
    · rintro ((h2 | ⟨_, h2⟩) | ⟨_, h2⟩)
      · omega
      · rcases h1.2 (.inl h2) with h3 | ⟨h3, h4⟩
        · left; omega
        · right; refine ⟨by omega, ?_⟩; rw [show u - (t + (D (s + m)).2) = u - t - (D (s + m)).2 by omega]; exact h4
      · rcases h1.2 (.inr h2) with h3 | ⟨h3, h4⟩
        · left; omega
        · right; refine ⟨by omega, ?_⟩; rw [show u - (t + (D (s + m)).2) = u - t - (D (s + m)).2 by omega]; exact h4
    · rintro (h2 | ⟨h2, h3⟩)
      · rcases h1.1 (.inl (by omega)) with h4 | h4
        · exact .inl (.inr ⟨hu, h4⟩)
        · exact .inr ⟨hu, h4⟩
      · rcases h1.1 (.inr ⟨by omega, by rw [show u - t - (D (s + m)).2 = u - (t + (D (s + m)).2) by omega]; exact h3⟩) with h4 | h4
        · exact .inl (.inr ⟨hu, h4⟩)
        · exact .inr ⟨hu, h4⟩
  · constructor
    · intro _; left; omega
    · intro _; left; left; omega
theorem exists_bit {s : Nat} (h : s ≠ 0) : ∃ j, s.testBit j = true := by
  rcases Nat.eq_zero_or_pos s with h0 | h0
  · exact absurd h0 h
  · exact Classical.byContradiction fun hn => h (Nat.eq_of_testBit_eq fun j => by
      rw [Nat.zero_testBit]
      cases e : s.testBit j with
      | false => rfl
      | true => exact absurd ⟨j, e⟩ hn)
/-- entries in strictly ascending order, all from lo on -/
def Up (lo : Nat) : List Nat → Prop
  | [] => True
  | x :: t => lo ≤ x ∧ Up (x + 1) t
/-- what a run that comes back leaves -/
theorem run_ok {m : Nat} (hm : m % 2 = 1) (hm2 : m < 8192) : ∀ {f s t : Nat} {es : List Nat} {p : Nat} {es' : List Nat}, s < 8192 → s % 2 = 0 → LInv m s t es → run m f s t es = some (true, p, es') →
    t < p ∧ (∀ u, Cov m es' u ↔ u < p) ∧ (∀ k, es.length < k → k < es'.length → ¬ ∃ q, ∀ u, Cov m (es'.take k) u ↔ u < q) ∧ ∃ ext, es' = es ++ t :: ext ∧ Up (t + 1) ext ∧ ∀ e ∈ ext, e < p := by
  intro f
  induction f with
  | zero => intro s t es p es' _ _ _ h; cases h
  | succ f ih =>
    intro s t es p es' hs hs2 hI h
    by_cases h1 : s &&& m = 0
    · have hI2 := hI.step (by omega) (by omega) h1
      obtain ⟨g1, g2, _⟩ := step_facts hm hm2 hs hs2
      have hn : 1 ≤ (D (s + m)).2 := by rw [D_odd (by omega)]; exact Nat.le_add_left 1 _
      by_cases h2 : (D (s + m)).1 = 0
      · rw [run_done h1 h2] at h
        simp only [Option.some.injEq, Prod.mk.injEq, true_and] at h
        obtain ⟨rfl, rfl⟩ := h
        refine ⟨by omega, fun u => ?_, fun k hk1 hk2 => by simp at hk2; omega, [], rfl, trivial, by simp⟩
        rw [hI2 u, h2]
        simp
      · rw [run_on h1 h2] at h
        obtain ⟨r1, r2, r3, ext, r4, r5, r6⟩ := ih g1 g2 hI2 h
        refine ⟨by omega, r2, fun k hk1 hk2 => ?_, (t + (D (s + m)).2) :: ext, by rw [r4]; simp, ⟨by omega, r5⟩, ?_⟩
        · by_cases hk : k = es.length + 1
          · rintro ⟨q, hq⟩
            have e : es'.take k = es ++ [t] := by
              rw [r4, hk]
              have : (es ++ [t]).length = es.length + 1 := by simp
              rw [← this, List.take_left]
            rw [e] at hq
            obtain ⟨j, hj⟩ := exists_bit h2
            have c1 := (hI2 (t + (D (s + m)).2)).2
            have n1 : ¬ Cov m (es ++ [t]) (t + (D (s + m)).2) := by
              rw [hI2]
              rintro (h | ⟨_, h⟩)
              · omega
              · rw [Nat.sub_self, Nat.testBit_zero] at h
                simp at h
                omega
            have n2 : Cov m (es ++ [t]) (t + (D (s + m)).2 + j) := by
              rw [hI2]; right; exact ⟨by omega, by rw [show t + (D (s + m)).2 + j - (t + (D (s + m)).2) = j by omega]; exact hj⟩
            rw [hq] at n1 n2
            omega
          · exact r3 k (by simp; omega) hk2
        · intro e he
          rcases List.mem_cons.1 he with h | h
          · rw [h]; exact r1
          · exact r6 e h
    · rw [run_fail h1] at h
      simp at h
theorem Up.ge : ∀ {l : List Nat} {lo : Nat}, Up lo l → ∀ x ∈ l, lo ≤ x := by
  intro l
  induction l with
  | nil => intro lo _ x hx; cases hx
  | cons a t ih =>
    intro lo h x hx
    rcases List.mem_cons.1 hx with e | e
    · rw [e]; exact h.1
    · have := ih h.2 x e; have := h.1; omega
theorem Up.take_lt : ∀ {l : List Nat} {lo : Nat}, Up lo l → ∀ q, ∃ k, k ≤ l.length ∧ (∀ x, x ∈ l.take k ↔ x ∈ l ∧ x < q) := by
  intro l
  induction l with
  | nil => intro lo _ q; exact ⟨0, Nat.le_refl _, by simp⟩
  | cons a t ih =>
    intro lo h q
    by_cases ha : a < q
    · obtain ⟨k, hk, hx⟩ := ih h.2 q
      refine ⟨k + 1, by simp; omega, fun x => ?_⟩
      rw [List.take_succ_cons, List.mem_cons, List.mem_cons, hx]
      constructor
      · rintro (e | ⟨e, e2⟩)
        · exact ⟨.inl e, by omega⟩
        · exact ⟨.inr e, e2⟩
      · rintro ⟨e | e, e2⟩
        · exact .inl e
        · exact .inr ⟨e, e2⟩
    · refine ⟨0, Nat.zero_le _, fun x => ?_⟩
      rw [List.take_zero]
      constructor
      · intro h; cases h
      · rintro ⟨e, e2⟩
        rcases List.mem_cons.1 e with e | e
        · omega
        · have := h.2.ge x e; omega

theorem outc_run {l : List Int} {p : Nat} {es : List Nat} (h : outc l = (true, p, es)) : PatOk l ∧ 0 < p ∧ (∀ u, Cov (maskN l) es u ↔ u < p) ∧ (∀ k, 0 < k → k < es.length → ¬ ∃ q, ∀ u, Cov (maskN l) (es.take k) u ↔ u < q) ∧
    (∃ ext, es = 0 :: ext ∧ Up 1 ext ∧ ∀ e ∈ ext, e < p) := by
  by_cases hp : PatOk l
  · have h1 := outc_t hp
    rw [h] at h1
    obtain ⟨r1, r2, r3, ext, r4, r5, r6⟩ := run_ok (maskN_odd hp) (maskN_lt hp) (by omega) rfl (LInv.zero _) h1
    exact ⟨hp, r1, r2, fun k h1 h2 => r3 k (by simpa using h1) h2, ext, by simpa using r4, r5, r6⟩
  · rw [outc_f hp] at h; simp at h
theorem outc_lt {l : List Int} {p : Nat} {es : List Nat} (h : outc l = (true, p, es)) : ∀ e ∈ es, e < p := by
  obtain ⟨_, h0, _, _, ext, rfl, _, h6⟩ := outc_run h
  intro e he
  rcases List.mem_cons.1 he with e' | e'
  · omega
  · exact h6 e e'
/-- the block is the least period -/
theorem outc_least {l : List Int} {p : Nat} {es : List Nat} (h : outc l = (true, p, es)) {q : Nat} (hq0 : 0 < q) (hqp : q < p) (hd : p % q = 0) : ∃ t, t ∈ es ∧ ¬ (t + q) % p ∈ es := by
  refine Classical.byContradiction fun hn => ?_
  have hall : ∀ t ∈ es, (t + q) % p ∈ es := fun t ht => Classical.byContradiction fun hc => hn ⟨t, ht, hc⟩
  have hlt := outc_lt h
  obtain ⟨hp, h0, hcov, hpre, ext, hes, hup, _⟩ := outc_run h
  have h0e : 0 ∈ es := by rw [hes]; simp
  have hUp : Up 0 es := by rw [hes]; exact ⟨Nat.le_refl _, hup⟩
  obtain ⟨k, hk, hkx⟩ := hUp.take_lt q
  have hqe : q ∈ es := by
    have := hall 0 h0e
    rwa [Nat.zero_add, Nat.mod_eq_of_lt hqp] at this
  have hk0 : 0 < k := by
    rcases Nat.eq_zero_or_pos k with e | e
    · subst e
      have := (hkx 0).2 ⟨h0e, hq0⟩
      simp at this
    · exact e
  have hkl : k < es.length := by
    rcases Nat.lt_or_ge k es.length with e | e
    · exact e
    · rw [List.take_of_length_le e] at hkx
      have := ((hkx q).1 hqe).2
      omega
  -- shifting by q within the block
  have hshift : ∀ j e, e ∈ es → e + j * q < p → e + j * q ∈ es := by
    intro j
    induction j with
    | zero => intro e he _; simpa using he
    | succ j ih =>
      intro e he hlt2
      rw [Nat.add_mul, Nat.one_mul] at hlt2 ⊢
      have h1 := ih e he (by omega)
      have h2 := hall _ h1
      rwa [Nat.mod_eq_of_lt (by omega), Nat.add_assoc] at h2
  refine hpre k hk0 hkl ⟨q, fun u => ?_⟩
  constructor
  · rintro ⟨e, he, h1, h2⟩
    obtain ⟨he1, he2⟩ := (hkx e).1 he
    rcases Nat.lt_or_ge u q with hu | hu
    · exact hu
    · exfalso
      obtain ⟨c, hc⟩ := Nat.dvd_of_mod_eq_zero hd
      have hc1 : 1 ≤ c := by
        rcases Nat.eq_zero_or_pos c with e0 | e0
        · subst e0; omega
        · exact e0
      have e1 : (c - 1) * q + q = p := by
        rw [hc, Nat.mul_comm q c]
        conv => rhs; rw [show c = (c - 1) + 1 by omega, Nat.add_mul, Nat.one_mul]
      have hin := hshift (c - 1) e he1 (by omega)
      have : Cov (maskN l) es (e + (c - 1) * q + (u - e)) := ⟨_, hin, by omega, by rw [Nat.add_sub_cancel_left]; exact h2⟩
      rw [hcov] at this
      omega
  · intro hu
    obtain ⟨e, he, h1, h2⟩ := (hcov u).2 (by omega)
    exact ⟨e, (hkx e).2 ⟨he, by omega⟩, h1, h2⟩
theorem run_fail_nil {m : Nat} : ∀ {f s t : Nat} {es : List Nat} {p : Nat} {es' : List Nat}, run m f s t es = some (false, p, es') → es' = [] := by
  intro f
  induction f with
  | zero => intro s t es p es' h; cases h
  | succ f ih =>
    intro s t es p es' h
    by_cases h1 : s &&& m = 0
    · by_cases h2 : (D (s + m)).1 = 0
      · rw [run_done h1 h2] at h; simp at h
      · rw [run_on h1 h2] at h; exact ih h
    · rw [run_fail h1] at h; simp at h; exact h.2
theorem outc_nil {l : List Int} (h : (outc l).1 = false) : (outc l).2.2 = [] := by
  by_cases hp : PatOk l
  · have h1 := outc_t hp
    have e : outc l = (false, (outc l).2.1, (outc l).2.2) := by rw [← h]
    rw [e] at h1
    exact run_fail_nil h1
  · rw [outc_f hp]
theorem outc_pos {l : List Int} (h : (outc l).1 = true) : 0 < (outc l).2.1 := by
  have e : outc l = (true, (outc l).2.1, (outc l).2.2) := by rw [← h]
  exact (outc_run e).2.1
theorem run_bound {m : Nat} (hm : m % 2 = 1) (hm2 : m < 8192) : ∀ {f s t : Nat} {es : List Nat} {b : Bool} {p : Nat} {es' : List Nat}, s < 8192 → s % 2 = 0 → run m f s t es = some (b, p, es') → p ≤ t + 14 * f ∧ es'.length ≤ es.length + f := by
  intro f
  induction f with
  | zero => intro s t es b p es' _ _ h; cases h
  | succ f ih =>
    intro s t es b p es' hs hs2 h
    obtain ⟨g1, g2, g3⟩ := step_facts hm hm2 hs hs2
    by_cases h1 : s &&& m = 0
    · by_cases h2 : (D (s + m)).1 = 0
      · rw [run_done h1 h2] at h
        simp only [Option.some.injEq, Prod.mk.injEq] at h
        obtain ⟨_, rfl, rfl⟩ := h
        exact ⟨by omega, by simp⟩
      · rw [run_on h1 h2] at h
        have := ih g1 g2 h
        simp at this
        omega
    · rw [run_fail h1] at h
      simp only [Option.some.injEq, Prod.mk.injEq] at h
      obtain ⟨_, rfl, rfl⟩ := h
      exact ⟨by omega, by simp⟩
theorem outc_bound (l : List Int) : (outc l).2.1 ≤ 57358 ∧ (outc l).2.2.length ≤ 4097 := by
  by_cases hp : PatOk l
  · have h1 := outc_t hp
    have := run_bound (maskN_odd hp) (maskN_lt hp) (by omega) rfl (show run (maskN l) 4097 0 0 [] = some ((outc l).1, (outc l).2.1, (outc l).2.2) from h1)
    simp at this
    omega
  · rw [outc_f hp]; exact ⟨Nat.zero_le _, Nat.zero_le _⟩
end Go.Proofs.YtpnbcgnbkanebaaDoor
