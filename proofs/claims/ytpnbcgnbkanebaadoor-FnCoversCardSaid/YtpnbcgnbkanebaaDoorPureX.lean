/- Plain facts: which lists are covers; who takes which time. -/
import Derived.Test.YtpnbcgnbkanebaaDoorPureV
namespace Go.Proofs.YtpnbcgnbkanebaaDoor
/-- the times xs are laid into the row of takers, as i's -/
def layC (i : Int) : List Int → List Int → Option (List Int)
  | [], a => some a
  | x :: xs, a => if 0 ≤ x ∧ x < a.length ∧ a.getD x.toNat 0 < 0 then layC i xs (a.set x.toNat i) else none
/-- the list's elements are laid from element i on -/
def takR (p : List Int) (n : Nat) : Nat → Int → List Int → List Int → Option (List Int)
  | _, _, [], a => some a
  | i, prev, x :: xs, a =>
    if 0 ≤ x ∧ x < 2 * n ∧ (i = 0 ∨ prev < x) ∧ (x % 2 = 1 → mirL p ≠ p) then
      match layC i ((if x % 2 = 1 then mirL p else p).map fun y => x / 2 + y) a with
      | none => none
      | some b => takR p n (i + 1) x xs b
    else none
def takO (p : List Int) (n : Nat) (l : List Int) : Option (List Int) :=
  match takR p n 0 0 l (List.replicate n (-1)) with
  | none => none
  | some a => if a.all fun v => decide (0 ≤ v) then some a else none
theorem layC_len {i : Int} : ∀ {xs a b : List Int}, layC i xs a = some b → b.length = a.length := by
  intro xs
  induction xs with
  | nil => intro a b h; simp [layC] at h; rw [h]
  | cons x xs ih =>
    intro a b h
    rw [layC] at h
    split at h
    · rw [ih h, List.length_set]
    · cases h
theorem getD_set_m (a : List Int) (k j : Nat) (i : Int) : (a.set k i).getD j (-1) = if k = j ∧ j < a.length then i else a.getD j (-1) := by
  simp only [List.getD_eq_getElem?_getD, List.getElem?_set]
  by_cases h : k = j
  · subst h
    by_cases h2 : k < a.length
    · simp [h2]
    · simp [h2, List.getElem?_eq_none (Nat.le_of_not_lt h2)]
  · simp [h]
theorem getD_0m {a : List Int} {j : Nat} (h : j < a.length) : a.getD j 0 = a.getD j (-1) := by
  simp [List.getD_eq_getElem?_getD, List.getElem?_eq_getElem h]
/-- what laying leaves -/
theorem layC_get {i : Int} : ∀ {xs a b : List Int}, layC i xs a = some b → ∀ j, b.getD j (-1) = if (j : Int) ∈ xs then i else a.getD j (-1) := by
  intro xs
  induction xs with
  | nil => intro a b h j; simp [layC] at h; simp [h]
  | cons x xs ih =>
    intro a b h j
    rw [layC] at h
    split at h
    · rename_i hc
      rw [ih h j, getD_set_m]
      by_cases h1 : (j : Int) ∈ xs
      · rw [if_pos h1, if_pos (List.mem_cons_of_mem _ h1)]
      · rw [if_neg h1]
        by_cases h2 : (j : Int) = x
        · rw [if_pos ⟨by omega, by omega⟩, if_pos (by rw [h2]; simp)]
        · rw [if_neg (fun h => h2 (by omega)), if_neg (fun h => by rcases List.mem_cons.1 h with h | h; exact h2 h; exact h1 h)]
    · cases h
/-- the times were free -/
theorem layC_free {i : Int} (hi : 0 ≤ i) : ∀ {xs a b : List Int}, layC i xs a = some b → ∀ x ∈ xs, 0 ≤ x ∧ x < a.length ∧ a.getD x.toNat (-1) < 0 := by
  intro xs
  induction xs with
  | nil => intro a b _ x hx; cases hx
  | cons y xs ih =>
    intro a b h x hx
    rw [layC] at h
    split at h
    · rename_i hc
      rcases List.mem_cons.1 hx with rfl | hx
      · exact ⟨hc.1, hc.2.1, by rw [← getD_0m (by omega)]; exact hc.2.2⟩
      · obtain ⟨h1, h2, h3⟩ := ih h x hx
        rw [List.length_set] at h2
        refine ⟨h1, h2, ?_⟩
        rw [getD_set_m] at h3
        split at h3
        · omega
        · exact h3
    · cases h
theorem layC_some {i : Int} : ∀ {xs a : List Int}, xs.Nodup → (∀ x ∈ xs, 0 ≤ x ∧ x < a.length ∧ a.getD x.toNat (-1) < 0) → ∃ b, layC i xs a = some b := by
  intro xs
  induction xs with
  | nil => intro a _ _; exact ⟨a, rfl⟩
  | cons x xs ih =>
    intro a hn h
    rw [List.nodup_cons] at hn
    obtain ⟨h1, h2, h3⟩ := h x (by simp)
    rw [layC, if_pos ⟨h1, h2, by rw [getD_0m (by omega)]; exact h3⟩]
    refine ih hn.2 fun y hy => ?_
    obtain ⟨g1, g2, g3⟩ := h y (List.mem_cons_of_mem _ hy)
    refine ⟨g1, by rw [List.length_set]; exact g2, ?_⟩
    rw [getD_set_m, if_neg (fun e => hn.1 (by rw [show x = y by omega]; exact hy))]
    exact g3
/-- the row of takers and the mask of what is taken -/
structure Tkn (a : List Int) (n M : Nat) : Prop where
  len : a.length = n
  bit : ∀ j, j < n → (0 ≤ a.getD j (-1) ↔ M.testBit j = true)
theorem Tkn.zero (n : Nat) : Tkn (List.replicate n (-1)) n 0 := ⟨by simp, fun j hj => by simp [List.getD_eq_getElem?_getD, List.getElem?_replicate, hj]⟩
theorem PatOk.nodup {q : List Int} (hq : PatOk q) (c : Int) : (q.map fun y => c + y).Nodup := by
  have pw : q.Pairwise (· < ·) := by
    rw [List.pairwise_iff_getElem]
    intro i j hi hj hij
    have hi1 : q[i + 1]? = some q[i + 1] := List.getElem?_eq_getElem (by omega)
    have h1 := asc_lt hq.2.2 (List.getElem?_eq_getElem hi) hi1
    have h2 := asc_le hq.2.2 hi1 (d := j - (i + 1)) (by rw [show i + 1 + (j - (i + 1)) = j by omega]; exact List.getElem?_eq_getElem hj)
    omega
  unfold List.Nodup
  rw [List.pairwise_map]
  exact pw.imp fun {x y} h => by omega
theorem mem_layC {q : List Int} (hq : PatOk q) {t j : Nat} : ((j : Int) ∈ q.map fun y => (t : Int) + y) ↔ (maskN q * 2 ^ t).testBit j = true := by
  rw [Nat.testBit_mul_two_pow, Bool.and_eq_true, decide_eq_true_eq, mask_bit hq, List.mem_map]
  constructor
  · rintro ⟨y, hy, e⟩
    have := hq.mem hy
    exact ⟨by omega, by rw [show ((j - t : Nat) : Int) = y by omega]; exact hy⟩
  · rintro ⟨h1, h2⟩
    exact ⟨_, h2, by omega⟩
theorem lt_of_bits {X n : Nat} (h : ∀ j, X.testBit j = true → j < n) : X < 2 ^ n := by
  refine Nat.lt_pow_two_of_testBit _ fun j hj => ?_
  cases e : X.testBit j with
  | false => rfl
  | true => have := h j e; omega
/-- laying an element, by masks -/
theorem layC_mask {q : List Int} (hq : PatOk q) {a : List Int} {n M t : Nat} {i : Int} (hi : 0 ≤ i) (ha : Tkn a n M) :
    (M &&& (maskN q * 2 ^ t) = 0 ∧ maskN q * 2 ^ t < 2 ^ n) ↔ ∃ b, layC i (q.map fun y => (t : Int) + y) a = some b := by
  constructor
  · rintro ⟨h1, h2⟩
    refine layC_some (hq.nodup _) fun x hx => ?_
    have hx0 : 0 ≤ x := by
      obtain ⟨y, hy, rfl⟩ := List.mem_map.1 hx
      have := hq.mem hy; omega
    have hb : (maskN q * 2 ^ t).testBit x.toNat = true := (mem_layC hq).1 (by rw [show ((x.toNat : Nat) : Int) = x by omega]; exact hx)
    have hlt : x.toNat < n := by
      refine Classical.byContradiction fun hc => ?_
      rw [Nat.testBit_lt_two_pow (Nat.lt_of_lt_of_le h2 (Nat.pow_le_pow_right (by decide) (by omega)))] at hb
      cases hb
    refine ⟨hx0, by rw [ha.len]; omega, ?_⟩
    refine Classical.byContradiction fun hc => ?_
    have hm := (ha.bit _ hlt).1 (by omega)
    have := congrArg (fun z => z.testBit x.toNat) h1
    simp only [Nat.testBit_and, hm, hb, Nat.zero_testBit] at this
    cases this
  · rintro ⟨b, hb⟩
    have hf := layC_free hi hb
    have key : ∀ j, (maskN q * 2 ^ t).testBit j = true → j < n ∧ M.testBit j = false := fun j hj => by
      have h1 := hf j ((mem_layC hq).2 hj)
      rw [ha.len] at h1
      have hjn : j < n := by omega
      refine ⟨hjn, ?_⟩
      cases e : M.testBit j with
      | false => rfl
      | true =>
        have := (ha.bit j hjn).2 e
        have h2 := h1.2.2
        rw [Int.toNat_natCast] at h2
        omega
    refine ⟨Nat.eq_of_testBit_eq fun j => ?_, lt_of_bits fun j hj => (key j hj).1⟩
    rw [Nat.testBit_and, Nat.zero_testBit]
    cases e : (maskN q * 2 ^ t).testBit j with
    | false => simp
    | true => simp [(key j e).2]
theorem layC_tkn {q : List Int} (hq : PatOk q) {a b : List Int} {n M t : Nat} {i : Int} (hi : 0 ≤ i) (ha : Tkn a n M) (h : layC i (q.map fun y => (t : Int) + y) a = some b) : Tkn b n (M ||| (maskN q * 2 ^ t)) := by
  refine ⟨by rw [layC_len h, ha.len], fun j hj => ?_⟩
  rw [layC_get h j, Nat.testBit_or, Bool.or_eq_true, ← mem_layC hq, ← ha.bit j hj]
  by_cases hc : (j : Int) ∈ q.map fun y => (t : Int) + y
  · rw [if_pos hc]; exact ⟨fun _ => .inr hc, fun _ => hi⟩
  · rw [if_neg hc]; exact ⟨fun h => .inl h, fun h => h.resolve_right hc⟩
/-- an element takes no time ahead of its own -/
theorem takR_low {p : List Int} (hp : PatOk p) {n : Nat} : ∀ {l : List Int} {i : Nat} {prev : Int} {a b : List Int} {x : Int} {xs : List Int}, l = x :: xs → takR p n i prev l a = some b → ∀ j : Nat, (j : Int) < x / 2 → b.getD j (-1) = a.getD j (-1) := by
  intro l
  induction l with
  | nil => intro i prev a b x xs h; cases h
  | cons z zs ih =>
    intro i prev a b x xs hl h j hj
    injection hl with e1 e2
    subst e1 e2
    rw [takR] at h
    split at h
    · rename_i hc
      split at h
      · cases h
      · rename_i c hcl
        have hg := layC_get hcl j
        rw [if_neg] at hg
        · rw [← hg]
          cases zs with
          | nil => simp [takR] at h; rw [h]
          | cons y ys =>
            refine ih rfl h j ?_
            rw [takR] at h
            split at h
            · rename_i hc2
              have := hc2.2.2.1
              omega
            · cases h
        · intro hm
          obtain ⟨y, hy, e⟩ := List.mem_map.1 hm
          have : 0 ≤ y := by
            split at hy
            · exact ((mirL_ok hp).mem hy).1
            · exact (hp.mem hy).1
          omega
    · cases h
theorem mask_mir {p : List Int} (hp : PatOk p) : maskN (mirL p) ≠ maskN p ↔ mirL p ≠ p :=
  ⟨fun h e => h (by rw [e]), fun h e => h (mask_inj (mirL_ok hp) hp e)⟩
theorem zero_mem {q : List Int} (hq : PatOk q) : (0 : Int) ∈ q := List.mem_of_getElem? hq.2.1
/-- a list goes on to a cover just if it can be laid, and then nothing is free -/
theorem cv_iff {p : List Int} (hp : PatOk p) {n : Nat} (hn : n ≤ 24) : ∀ (l : List Int) (f t s : Nat) (i : Nat) (prev : Int) (a : List Int), t ≤ n → s < 2 ^ (n - t) → s % 2 = 0 → n + 1 ≤ f + t → Tkn a n (tk t s) → (i = 0 ∨ prev < 2 * t) →
    (l ∈ cv (maskN p) (maskN (mirL p)) n f t s ↔ ∃ b, takR p n i prev l a = some b ∧ ∀ j, j < n → 0 ≤ b.getD j (-1)) := by
  intro l
  induction l with
  | nil =>
    intro f t s i prev a ht hs hse hf ha hpr
    obtain ⟨f, rfl⟩ : ∃ g, f = g + 1 := ⟨f - 1, by omega⟩
    rw [cv]
    by_cases htn : t = n
    · rw [if_pos htn]
      refine ⟨fun _ => ⟨a, rfl, fun j hj => (ha.bit j hj).2 ((tk_bits t s j).2 (.inl (by omega)))⟩, fun _ => by simp⟩
    · rw [if_neg htn]
      constructor
      · intro h
        rw [List.mem_append] at h
        rcases h with h | h <;> split at h <;> simp at h
      · rintro ⟨b, hb, hall⟩
        simp [takR] at hb
        subst hb
        have h1 := (ha.bit t (by omega)).1 (hall t (by omega))
        rcases (tk_bits t s t).1 h1 with h2 | ⟨_, h2⟩
        · omega
        · rw [Nat.sub_self, Nat.testBit_zero] at h2
          simp at h2; omega
  | cons x xs ih =>
    intro f t s i prev a ht hs hse hf ha hpr
    obtain ⟨f, rfl⟩ : ∃ g, f = g + 1 := ⟨f - 1, by omega⟩
    by_cases htn : t = n
    · rw [cv, if_pos htn]
      constructor
      · intro h; simp at h
      · rintro ⟨b, hb, hall⟩
        exfalso
        rw [takR] at hb
        split at hb
        · rename_i hc
          split at hb
          · cases hb
          · rename_i c hcl
            have h1 := layC_free (Int.natCast_nonneg i) hcl (x / 2 + 0) (List.mem_map.2 ⟨0, by split; exact zero_mem (mirL_ok hp); exact zero_mem hp, rfl⟩)
            rw [ha.len] at h1
            have h2 := (ha.bit (x / 2 + 0).toNat (by omega)).2 ((tk_bits _ _ _).2 (.inl (by omega)))
            omega
        · cases hb
    · -- what a member looks like
      have side : ∀ (k : Nat) (q : List Int), PatOk q → (k = 0 ∧ q = p ∨ k = 1 ∧ q = mirL p) → x = 2 * t + k → (k = 1 → mirL p ≠ p) →
          ((s &&& maskN q = 0 ∧ maskN q / 2 ^ (n - t) = 0 ∧ xs ∈ cv (maskN p) (maskN (mirL p)) n f (t + (D (s + maskN q)).2) (D (s + maskN q)).1) ↔ ∃ b, takR p n i prev (x :: xs) a = some b ∧ ∀ j, j < n → 0 ≤ b.getD j (-1)) := by
        intro k q hq hk hx hm
        have hsh : ((if x % 2 = 1 then mirL p else p).map fun y => x / 2 + y) = q.map fun y => (t : Int) + y := by
          rcases hk with ⟨rfl, rfl⟩ | ⟨rfl, rfl⟩
          · rw [if_neg (by omega), show x / 2 = (t : Int) by omega]
          · rw [if_pos (by omega), show x / 2 = (t : Int) by omega]
        have hcond : 0 ≤ x ∧ x < 2 * n ∧ (i = 0 ∨ prev < x) ∧ (x % 2 = 1 → mirL p ≠ p) := ⟨by omega, by omega, by omega, fun h => hm (by omega)⟩
        rw [takR, if_pos hcond, hsh]
        have hL := layC_mask (i := (i : Int)) hq (t := t) (Int.natCast_nonneg i) ha
        rw [tk_and0, ← fits_iff ht] at hL
        have s24 : s < 2 ^ 24 := Nat.lt_of_lt_of_le hs (Nat.pow_le_pow_right (by decide) (by omega))
        constructor
        · rintro ⟨h1, h2, h3⟩
          obtain ⟨b, hb⟩ := hL.1 ⟨h1, h2⟩
          rw [hb]
          obtain ⟨e1, e2, e3, e4, e5⟩ := cv_step (maskN_odd hq) hse (by omega) hn hs h1 h2
          have hT := layC_tkn hq (Int.natCast_nonneg i) ha hb
          rw [tk_or (by omega) (by have := maskN_lt hq; omega) h1, ← tk_D] at hT
          exact (ih _ _ _ (i + 1) x b e2 e3 e4 (by omega) hT (.inr (by omega))).1 h3
        · rintro ⟨b, hb, hall⟩
          cases hl : layC (i : Int) (q.map fun y => (t : Int) + y) a with
          | none => rw [hl] at hb; cases hb
          | some c =>
            rw [hl] at hb
            obtain ⟨h1, h2⟩ := hL.2 ⟨c, hl⟩
            obtain ⟨e1, e2, e3, e4, e5⟩ := cv_step (maskN_odd hq) hse (by omega) hn hs h1 h2
            have hT := layC_tkn hq (Int.natCast_nonneg i) ha hl
            rw [tk_or (by omega) (by have := maskN_lt hq; omega) h1, ← tk_D] at hT
            exact ⟨h1, h2, (ih _ _ _ (i + 1) x c e2 e3 e4 (by omega) hT (.inr (by omega))).2 ⟨b, hb, hall⟩⟩
      constructor
      · intro h
        rw [cv, if_neg htn, List.mem_append] at h
        rcases h with h | h
        · split at h
          · rename_i hc
            obtain ⟨y, hy, e⟩ := List.mem_map.1 h
            injection e with e1 e2
            subst e2
            exact (side 0 p hp (.inl ⟨rfl, rfl⟩) (by omega) (by omega)).1 ⟨hc.1, hc.2, hy⟩
          · cases h
        · split at h
          · rename_i hc
            obtain ⟨y, hy, e⟩ := List.mem_map.1 h
            injection e with e1 e2
            subst e2
            exact (side 1 (mirL p) (mirL_ok hp) (.inr ⟨rfl, rfl⟩) (by omega) (fun _ => (mask_mir hp).1 hc.1)).1 ⟨hc.2.1, hc.2.2, hy⟩
          · cases h
      · rintro ⟨b, hb, hall⟩
        have hb0 := hb
        rw [takR] at hb
        split at hb
        · rename_i hc
          split at hb
          · cases hb
          · rename_i c hcl
            have h1 := layC_free (Int.natCast_nonneg i) hcl (x / 2 + 0) (List.mem_map.2 ⟨0, by split; exact zero_mem (mirL_ok hp); exact zero_mem hp, rfl⟩)
            rw [ha.len] at h1
            have hge : (t : Int) ≤ x / 2 := by
              refine Classical.byContradiction fun hn => ?_
              have h2 := (ha.bit (x / 2 + 0).toNat (by omega)).2 ((tk_bits _ _ _).2 (.inl (by omega)))
              omega
            have hle : x / 2 ≤ (t : Int) := by
              refine Classical.byContradiction fun hn => ?_
              have h2 := takR_low hp rfl hb0 t (by omega)
              have h3 := hall t (by omega)
              rw [h2] at h3
              rcases (tk_bits t s t).1 ((ha.bit t (by omega)).1 h3) with h4 | ⟨_, h4⟩
              · omega
              · rw [Nat.sub_self, Nat.testBit_zero] at h4
                simp at h4; omega
            rw [cv, if_neg htn, List.mem_append]
            by_cases hodd : x % 2 = 1
            · obtain ⟨g1, g2, g3⟩ := (side 1 (mirL p) (mirL_ok hp) (.inr ⟨rfl, rfl⟩) (by omega) (fun _ => hc.2.2.2 hodd)).2 ⟨b, hb0, hall⟩
              right
              rw [if_pos ⟨(mask_mir hp).2 (hc.2.2.2 hodd), g1, g2⟩]
              exact List.mem_map.2 ⟨xs, g3, by rw [show x = ((2 * t + 1 : Nat) : Int) by omega]⟩
            · obtain ⟨g1, g2, g3⟩ := (side 0 p hp (.inl ⟨rfl, rfl⟩) (by omega) (by omega)).2 ⟨b, hb0, hall⟩
              left
              rw [if_pos ⟨g1, g2⟩]
              exact List.mem_map.2 ⟨xs, g3, by rw [show x = ((2 * t : Nat) : Int) by omega]⟩
        · cases hb
theorem all_getD {a : List Int} : (a.all fun v => decide (0 ≤ v)) = true ↔ ∀ j, j < a.length → 0 ≤ a.getD j (-1) := by
  rw [List.all_eq_true]
  constructor
  · intro h j hj
    have := h (a.getD j (-1)) (by rw [List.getD_eq_getElem?_getD, List.getElem?_eq_getElem hj]; exact List.getElem_mem hj)
    simpa using this
  · intro h v hv
    obtain ⟨j, hj, rfl⟩ := List.getElem_of_mem hv
    have := h j hj
    rw [List.getD_eq_getElem?_getD, List.getElem?_eq_getElem hj] at this
    simpa using this
theorem takR_len {p : List Int} {n : Nat} : ∀ {l : List Int} {i : Nat} {prev : Int} {a b : List Int}, takR p n i prev l a = some b → b.length = a.length := by
  intro l
  induction l with
  | nil => intro i prev a b h; simp [takR] at h; rw [h]
  | cons x xs ih =>
    intro i prev a b h
    rw [takR] at h
    split at h
    · split at h
      · cases h
      · rename_i c hcl
        rw [ih h, layC_len hcl]
    · cases h
theorem cover_iff {p : List Int} (hp : PatOk p) {n : Nat} (hn : n ≤ 24) (l : List Int) : l ∈ cv (maskN p) (maskN (mirL p)) n (n + 1) 0 0 ↔ ∃ a, takO p n l = some a := by
  have ht : tk 0 0 = 0 := by decide
  have h := cv_iff hp hn l (n + 1) 0 0 0 0 (List.replicate n (-1)) (Nat.zero_le _) (Nat.two_pow_pos _) rfl (by omega) (by rw [ht]; exact Tkn.zero n) (.inl rfl)
  rw [h]
  unfold takO
  constructor
  · rintro ⟨b, hb, hall⟩
    refine ⟨b, ?_⟩
    rw [hb]
    have hl := takR_len hb
    rw [List.length_replicate] at hl
    have := all_getD.2 (by rw [hl]; exact hall)
    simp [this]
  · rintro ⟨a, ha⟩
    cases e : takR p n 0 0 l (List.replicate n (-1)) with
    | none => rw [e] at ha; cases ha
    | some b =>
      rw [e] at ha
      simp only at ha
      split at ha
      · rename_i hc
        have hl := takR_len e
        rw [List.length_replicate] at hl
        exact ⟨b, rfl, by rw [← hl]; exact all_getD.1 hc⟩
      · cases ha
/-- a cover's elements are at most as many as the times -/
theorem cv_elems (A B n : Nat) (hA : A % 2 = 1) (hB : B % 2 = 1) (hn : n ≤ 24) : ∀ (f t s : Nat) (l : List Int), t ≤ n → s < 2 ^ (n - t) → s % 2 = 0 → l ∈ cv A B n f t s → l.length + t ≤ n := by
  intro f
  induction f with
  | zero => intro t s l _ _ _ h; simp [cv] at h
  | succ f ih =>
    intro t s l ht hs hse h
    rw [cv] at h
    split at h
    · simp at h; subst h; simpa using ht
    · rename_i htn
      rw [List.mem_append] at h
      rcases h with h | h
      · split at h
        · rename_i hc
          obtain ⟨y, hy, rfl⟩ := List.mem_map.1 h
          obtain ⟨e1, e2, e3, e4, e5⟩ := cv_step hA hse (by omega) hn hs hc.1 hc.2
          have := ih _ _ _ e2 e3 e4 hy
          simp; omega
        · cases h
      · split at h
        · rename_i hc
          obtain ⟨y, hy, rfl⟩ := List.mem_map.1 h
          obtain ⟨e1, e2, e3, e4, e5⟩ := cv_step hB hse (by omega) hn hs hc.2.1 hc.2.2
          have := ih _ _ _ e2 e3 e4 hy
          simp; omega
        · cases h
end Go.Proofs.YtpnbcgnbkanebaaDoor
