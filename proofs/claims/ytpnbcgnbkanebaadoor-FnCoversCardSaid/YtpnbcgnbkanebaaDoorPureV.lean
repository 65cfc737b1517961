/- Plain facts: the covers of n times by a pattern and its mirror. -/
import Derived.Test.YtpnbcgnbkanebaaDoorPureL2
namespace Go.Proofs.YtpnbcgnbkanebaaDoor
/-- the covers of the times from t to n, where s has the taken ones from t on -/
def cv (A B n : Nat) : Nat → Nat → Nat → List (List Int)
  | 0, _, _ => []
  | f + 1, t, s => if t = n then [[]] else
      (if s &&& A = 0 ∧ A / 2 ^ (n - t) = 0 then (cv A B n f (t + (D (s + A)).2) (D (s + A)).1).map fun l => ((2 * t : Nat) : Int) :: l else []) ++
      (if B ≠ A ∧ s &&& B = 0 ∧ B / 2 ^ (n - t) = 0 then (cv A B n f (t + (D (s + B)).2) (D (s + B)).1).map fun l => ((2 * t + 1 : Nat) : Int) :: l else [])
/-- the state as one number: what is taken from 0 on -/
def tk (t s : Nat) : Nat := (s + 1) * 2 ^ t - 1
theorem tk_eq (t s : Nat) : tk t s + 1 = (s + 1) * 2 ^ t := by
  unfold tk
  have : 1 ≤ (s + 1) * 2 ^ t := Nat.mul_pos (by omega) (Nat.two_pow_pos _)
  omega
theorem tk_D (t x : Nat) : tk (t + (D x).2) (D x).1 = tk t x := by
  have h1 := tk_eq (t + (D x).2) (D x).1
  have h2 := tk_eq t x
  have h3 := D_eq x
  rw [Nat.pow_add, Nat.mul_comm (2 ^ t), ← Nat.mul_assoc, ← h3] at h1
  omega
theorem tk_bits (t s j : Nat) : (tk t s).testBit j = true ↔ (j < t ∨ (t ≤ j ∧ s.testBit (j - t) = true)) := by
  have e : tk t s = s * 2 ^ t + (2 ^ t - 1) := by
    unfold tk
    have : 1 ≤ 2 ^ t := Nat.one_le_two_pow
    rw [Nat.add_mul, Nat.one_mul]; omega
  have hlt : 2 ^ t - 1 < 2 ^ t := by have : 1 ≤ 2 ^ t := Nat.one_le_two_pow; omega
  rw [e, Nat.mul_comm, Nat.testBit_two_pow_mul_add _ hlt]
  by_cases h : j < t
  · rw [if_pos h, Nat.testBit_two_pow_sub_one]; simp [h]
  · rw [if_neg h]; simp [h]; omega
theorem tk_lt {t s n : Nat} (ht : t ≤ n) (hs : s < 2 ^ (n - t)) : tk t s < 2 ^ n := by
  have h := tk_eq t s
  have h1 : (s + 1) * 2 ^ t ≤ 2 ^ (n - t) * 2 ^ t := Nat.mul_le_mul_right _ hs
  rw [← Nat.pow_add, Nat.sub_add_cancel ht] at h1
  omega
theorem tk_and (t s A : Nat) : tk t s &&& (A * 2 ^ t) = (s &&& A) * 2 ^ t := by
  apply Nat.eq_of_testBit_eq
  intro j
  rw [Nat.testBit_and, Nat.testBit_mul_two_pow, Nat.testBit_mul_two_pow, Bool.eq_iff_iff]
  simp only [Bool.and_eq_true, decide_eq_true_eq, tk_bits, Nat.testBit_and]
  constructor
  · rintro ⟨h1 | ⟨h1, h2⟩, h3, h4⟩
    · omega
    · exact ⟨h3, h2, h4⟩
  · rintro ⟨h1, h2, h3⟩
    exact ⟨.inr ⟨h1, h2⟩, h1, h3⟩
theorem tk_and0 {t s A : Nat} : tk t s &&& (A * 2 ^ t) = 0 ↔ s &&& A = 0 := by
  rw [tk_and]
  have : 0 < 2 ^ t := Nat.two_pow_pos _
  constructor
  · intro h; rcases Nat.mul_eq_zero.1 h with h | h <;> omega
  · intro h; rw [h, Nat.zero_mul]
theorem tk_or {t s A : Nat} (hs : s < 2 ^ 62) (hA : A < 2 ^ 62) (h : s &&& A = 0) : tk t s ||| (A * 2 ^ t) = tk t (s + A) := by
  rw [← or_add hs hA h]
  apply Nat.eq_of_testBit_eq
  intro j
  rw [Nat.testBit_or, Nat.testBit_mul_two_pow, Bool.eq_iff_iff]
  simp only [Bool.or_eq_true, Bool.and_eq_true, decide_eq_true_eq, tk_bits, Nat.testBit_or]
  constructor
  · rintro ((h1 | ⟨h1, h2⟩) | ⟨h1, h2⟩)
    · exact .inl h1
    · exact .inr ⟨h1, .inl h2⟩
    · exact .inr ⟨h1, .inr h2⟩
  · rintro (h1 | ⟨h1, h2 | h2⟩)
    · exact .inl (.inl h1)
    · exact .inl (.inr ⟨h1, h2⟩)
    · exact .inr ⟨h1, h2⟩
theorem fits_iff {A n t : Nat} (ht : t ≤ n) : A / 2 ^ (n - t) = 0 ↔ A * 2 ^ t < 2 ^ n := by
  rw [Nat.div_eq_zero_iff]
  have h0 : 2 ^ (n - t) ≠ 0 := Nat.pos_iff_ne_zero.1 (Nat.two_pow_pos _)
  have e : 2 ^ n = 2 ^ (n - t) * 2 ^ t := by rw [← Nat.pow_add, Nat.sub_add_cancel ht]
  constructor
  · rintro (h | h)
    · exact absurd h h0
    · rw [e]; exact Nat.mul_lt_mul_of_pos_right h (Nat.two_pow_pos _)
  · intro h
    rw [e] at h
    exact .inr (Nat.lt_of_mul_lt_mul_right h)
/-- the state behind an element -/
theorem cv_step {A n t s : Nat} (hA : A % 2 = 1) (hs2 : s % 2 = 0) (ht : t < n) (hn : n ≤ 24) (hs : s < 2 ^ (n - t)) (h0 : s &&& A = 0) (hf : A / 2 ^ (n - t) = 0) :
    1 ≤ (D (s + A)).2 ∧ t + (D (s + A)).2 ≤ n ∧ (D (s + A)).1 < 2 ^ (n - (t + (D (s + A)).2)) ∧ (D (s + A)).1 % 2 = 0 ∧ s + A < 2 ^ (n - t) := by
  have hAl : A < 2 ^ (n - t) := by
    rcases Nat.div_eq_zero_iff.1 hf with h | h
    · have := Nat.two_pow_pos (n - t); omega
    · exact h
  have hp : 2 ^ (n - t) ≤ 2 ^ 24 := Nat.pow_le_pow_right (by decide) (by omega)
  have hsA : s + A < 2 ^ (n - t) := by
    rw [← or_add (by omega) (by omega) h0]
    exact Nat.or_lt_two_pow hs hAl
  have h1 : (D (s + A)).2 = (D ((s + A) / 2)).2 + 1 := by rw [D_odd (by omega)]
  have h2 := D_num_le hsA
  refine ⟨by omega, by omega, ?_, D_even_res _, hsA⟩
  have h3 := D_eq (s + A)
  have e : 2 ^ (n - t) = 2 ^ (n - (t + (D (s + A)).2)) * 2 ^ (D (s + A)).2 := by rw [← Nat.pow_add]; congr 1; omega
  have h4 : ((D (s + A)).1 + 1) * 2 ^ (D (s + A)).2 ≤ 2 ^ (n - (t + (D (s + A)).2)) * 2 ^ (D (s + A)).2 := by omega
  exact Nat.le_of_mul_le_mul_right h4 (Nat.two_pow_pos _)
theorem cv_len (A B n : Nat) : ∀ f t s, (cv A B n f t s).length ≤ 2 ^ f := by
  intro f
  induction f with
  | zero => intro t s; simp [cv]
  | succ f ih =>
    intro t s
    rw [cv]
    split
    · have := Nat.one_le_two_pow (n := f + 1); simpa using this
    · rw [List.length_append, Nat.pow_succ]
      have h1 := ih (t + (D (s + A)).2) (D (s + A)).1
      have h2 := ih (t + (D (s + B)).2) (D (s + B)).1
      split <;> split <;> simp <;> omega
/-- how many covers begin with an element of mask A -/
def cn (A B n f t s X : Nat) : Nat := (cv A B n f (t + (D (s + X)).2) (D (s + X)).1).length
theorem cv_count (A B n f t s : Nat) (h : ¬ t = n) : (cv A B n (f + 1) t s).length = (if s &&& A = 0 ∧ A / 2 ^ (n - t) = 0 then cn A B n f t s A else 0) + (if B ≠ A ∧ s &&& B = 0 ∧ B / 2 ^ (n - t) = 0 then cn A B n f t s B else 0) := by
  rw [cv, if_neg h, List.length_append]
  unfold cn
  split <;> split <;> simp
theorem cv_end (A B n f s : Nat) : cv A B n (f + 1) n s = [[]] := by rw [cv, if_pos rfl]
theorem asc_lt {lo hi : Int} {l : List Int} (h : Asc lo hi l) {k : Nat} {x y : Int} (hx : l[k]? = some x) (hy : l[k + 1]? = some y) : x < y :=
  (h (k + 1) y (List.getElem?_eq_some_iff.1 hy).1 hy).2.2 x (by omega) hx
theorem asc_le {lo hi : Int} {l : List Int} (h : Asc lo hi l) {k : Nat} {x : Int} (hx : l[k]? = some x) : ∀ {d : Nat} {y : Int}, l[k + d]? = some y → x ≤ y := by
  intro d
  induction d with
  | zero => intro y hy; rw [Nat.add_zero, hx] at hy; cases hy; exact Int.le_refl _
  | succ d ih =>
    intro y hy
    have hk := (List.getElem?_eq_some_iff.1 hy).1
    have hz : l[k + d]? = some l[k + d] := List.getElem?_eq_getElem (by omega)
    have h1 := ih hz
    have h2 := asc_lt h hz hy
    omega
theorem mirL_get {l : List Int} {k : Nat} {x : Int} (h : (mirL l)[k]? = some x) : k < l.length ∧ l[l.length - 1 - k]? = some (lastI l - x) := by
  have hk : k < l.length := by
    have := (List.getElem?_eq_some_iff.1 h).1
    rw [mirL_len] at this
    exact this
  refine ⟨hk, ?_⟩
  unfold mirL at h
  rw [List.getElem?_map, List.getElem?_reverse hk] at h
  cases e : l[l.length - 1 - k]? with
  | none => rw [e] at h; simp at h
  | some y => rw [e] at h; simp at h; rw [← h]; congr 1; omega
theorem mirL_ok {l : List Int} (h : PatOk l) : PatOk (mirL l) := by
  refine ⟨by rw [mirL_len]; exact h.1, ?_, ?_⟩
  · have h0 : (mirL l)[0]? = some ((mirL l).getD 0 0) := get_of_lt (by rw [mirL_len]; exact h.1)
    have h1 := (mirL_get h0).2
    rw [Nat.sub_zero, lastI_get h.1] at h1
    rw [h0]
    simp only [Option.some.injEq] at h1 ⊢
    omega
  · intro k x hk hx
    obtain ⟨h1, h2⟩ := mirL_get hx
    have h3 := h.at_ h2
    have h4 := h.at_ (lastI_get h.1)
    have h5 : lastI l - x ≤ lastI l := asc_le h.2.2 h2 (d := k) (by rw [show l.length - 1 - k + k = l.length - 1 by omega]; exact lastI_get h.1)
    refine ⟨by omega, by omega, fun y h0 hy => ?_⟩
    have h6 := (mirL_get hy).2
    have h7 := asc_lt h.2.2 h2 (by rw [show l.length - 1 - k + 1 = l.length - 1 - (k - 1) by omega]; exact h6)
    omega
theorem mirL_mir {l : List Int} (h : PatOk l) : mirL (mirL l) = l := by
  have hl : lastI (mirL l) = lastI l := by
    have h1 := lastI_get (l := mirL l) (by rw [mirL_len]; exact h.1)
    have h2 := (mirL_get h1).2
    rw [mirL_len, Nat.sub_self, h.2.1] at h2
    simp only [Option.some.injEq] at h2
    omega
  apply List.ext_getElem?
  intro k
  by_cases hk : k < l.length
  · have h1 : (mirL (mirL l))[k]? = some ((mirL (mirL l)).getD k 0) := get_of_lt (by rw [mirL_len, mirL_len]; exact hk)
    have h2 := (mirL_get h1).2
    rw [mirL_len] at h2
    have h3 := (mirL_get h2).2
    rw [show l.length - 1 - (l.length - 1 - k) = k by omega, hl] at h3
    rw [h1, h3]
    congr 1
    omega
  · rw [List.getElem?_eq_none (by rw [mirL_len, mirL_len]; omega), List.getElem?_eq_none (by omega)]
theorem mask_inj {a b : List Int} (ha : PatOk a) (hb : PatOk b) (h : maskN a = maskN b) : a = b := by
  have key : ∀ x, x ∈ a ↔ x ∈ b := fun x => by
    constructor
    · intro hx
      have h1 := ha.mem hx
      have e : x = (x.toNat : Int) := by omega
      rw [e] at hx ⊢
      rw [← mask_bit hb, ← h, mask_bit ha]; exact hx
    · intro hx
      have h1 := hb.mem hx
      have e : x = (x.toNat : Int) := by omega
      rw [e] at hx ⊢
      rw [← mask_bit ha, h, mask_bit hb]; exact hx
  have pw : ∀ {l : List Int}, PatOk l → l.Pairwise (· < ·) := fun {l} hl => by
    rw [List.pairwise_iff_getElem]
    intro i j hi hj hij
    have hi1 : l[i + 1]? = some l[i + 1] := List.getElem?_eq_getElem (by omega)
    have h1 := asc_lt hl.2.2 (List.getElem?_eq_getElem hi) hi1
    have h2 := asc_le hl.2.2 hi1 (d := j - (i + 1)) (by rw [show i + 1 + (j - (i + 1)) = j by omega]; exact List.getElem?_eq_getElem hj)
    omega
  have ext : ∀ (a b : List Int), a.Pairwise (· < ·) → b.Pairwise (· < ·) → (∀ x, x ∈ a ↔ x ∈ b) → a = b := by
    intro a
    induction a with
    | nil => intro b _ _ h; cases b with
      | nil => rfl
      | cons y t => exact absurd ((h y).2 (by simp)) (by simp)
    | cons x s ih =>
      intro b pa pb h
      cases b with
      | nil => exact absurd ((h x).1 (by simp)) (by simp)
      | cons y t =>
        rw [List.pairwise_cons] at pa pb
        have hx : x = y := by
          rcases List.mem_cons.1 ((h x).1 (by simp)) with e | e
          · exact e
          · rcases List.mem_cons.1 ((h y).2 (by simp)) with e' | e'
            · exact e'.symm
            · have := pb.1 x e; have := pa.1 y e'; omega
        subst hx
        rw [ih t pa.2 pb.2 fun z => ?_]
        constructor
        · intro hz
          rcases List.mem_cons.1 ((h z).1 (by simp [hz])) with e | e
          · have := pa.1 z hz; omega
          · exact e
        · intro hz
          rcases List.mem_cons.1 ((h z).2 (by simp [hz])) with e | e
          · have := pb.1 z hz; omega
          · exact e
  exact ext a b (pw ha) (pw hb) key
/-- a mask in the making, moved by t -/
theorem pm_shift {l : List Int} (hp : PatOk l) {k t : Nat} {x : Int} (hx : l[k]? = some x) : (pm l k * 2 ^ t) ||| 2 ^ (t + x.toNat) = pm l (k + 1) * 2 ^ t := by
  rw [pm_succ hx, ← pm_or hp hx, Nat.pow_add, Nat.mul_comm (2 ^ t), ← Nat.shiftLeft_eq, ← Nat.shiftLeft_eq, ← Nat.shiftLeft_eq, Nat.shiftLeft_or_distrib]
end Go.Proofs.YtpnbcgnbkanebaaDoor
