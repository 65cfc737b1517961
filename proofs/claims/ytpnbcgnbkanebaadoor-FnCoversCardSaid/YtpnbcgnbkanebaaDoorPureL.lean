/- Plain facts on the machine that lays a pattern on a line: masks as natural numbers. -/
import Derived.Test.YtpnbcgnbkanebaaDoorBits
namespace Go.Proofs.YtpnbcgnbkanebaaDoor

/-- the mask of the first k elements -/
def pm (l : List Int) (k : Nat) : Nat := (l.take k).foldl (fun m x => m + 2 ^ x.toNat) 0
theorem pm_zero (l : List Int) : pm l 0 = 0 := by simp [pm]
theorem pm_succ {l : List Int} {k : Nat} {x : Int} (h : l[k]? = some x) : pm l (k + 1) = pm l k + 2 ^ x.toNat := by
  unfold pm; rw [take_succ h, List.foldl_append]; rfl
def maskN (l : List Int) : Nat := pm l l.length
theorem pm_lt {l : List Int} (hp : PatOk l) : ∀ {k : Nat} {x : Int}, l[k]? = some x → pm l k < 2 ^ x.toNat := by
  intro k
  induction k with
  | zero => intro x _; rw [pm_zero]; exact Nat.two_pow_pos _
  | succ k ih =>
    intro x hx
    have hk := (List.getElem?_eq_some_iff.1 hx).1
    have hy : l[k]? = some l[k] := List.getElem?_eq_getElem (by omega)
    have h1 := ih hy
    have h2 := (hp.2.2 (k + 1) x hk hx).2.2 l[k] (by omega) hy
    have h3 := hp.at_ hy
    have h4 := hp.at_ hx
    rw [pm_succ hy]
    have h5 : 2 ^ (l[k].toNat + 1) ≤ 2 ^ x.toNat := Nat.pow_le_pow_right (by decide) (by omega)
    rw [Nat.pow_succ] at h5
    omega
theorem pm_or {l : List Int} (hp : PatOk l) {k : Nat} {x : Int} (hx : l[k]? = some x) : pm l k ||| 2 ^ x.toNat = pm l k + 2 ^ x.toNat := by
  have h1 := pm_lt hp hx
  have h2 := hp.at_ hx
  have h3 : (2 : Nat) ^ x.toNat ≤ 2 ^ 12 := Nat.pow_le_pow_right (by decide) (by omega)
  refine or_pow (by omega) (by omega) ?_
  rw [Nat.div_eq_of_lt h1]; decide
theorem pm_le {l : List Int} (hp : PatOk l) {k : Nat} (hk : k ≤ l.length) : pm l k < 8192 := by
  cases k with
  | zero => rw [pm_zero]; decide
  | succ k =>
    have hy : l[k]? = some l[k] := List.getElem?_eq_getElem (by omega)
    have h1 := pm_lt hp hy
    have h2 := hp.at_ hy
    have h3 : (2 : Nat) ^ l[k].toNat ≤ 2 ^ 12 := Nat.pow_le_pow_right (by decide) (by omega)
    rw [pm_succ hy]
    omega
/-- the last element, as a natural number -/
def topN (l : List Int) : Nat := (lastI l).toNat
theorem topN_le {l : List Int} (hp : PatOk l) : topN l ≤ 12 := by
  have := hp.at_ (lastI_get hp.1); unfold topN; omega
theorem maskN_top {l : List Int} (hp : PatOk l) : 2 ^ topN l ≤ maskN l ∧ maskN l < 2 ^ (topN l + 1) := by
  have hy := lastI_get hp.1
  have h1 := pm_lt hp hy
  have e : maskN l = pm l (l.length - 1) + 2 ^ topN l := by
    unfold maskN topN
    conv => lhs; rw [show l.length = (l.length - 1) + 1 by have := hp.1; omega]
    exact pm_succ hy
  have h2 : pm l (l.length - 1) < 2 ^ topN l := h1
  rw [e, Nat.pow_succ]
  omega
theorem maskN_lt {l : List Int} (hp : PatOk l) : maskN l < 8192 := pm_le hp (Nat.le_refl _)
theorem maskN_odd {l : List Int} (hp : PatOk l) : maskN l % 2 = 1 := by
  have h : ∀ k, k + 1 ≤ l.length → pm l (k + 1) % 2 = 1 := by
    intro k
    induction k with
    | zero =>
      intro _
      rw [pm_succ hp.2.1, pm_zero]; decide
    | succ k ih =>
      intro hk
      have hy : l[k + 1]? = some l[k + 1] := List.getElem?_eq_getElem (by omega)
      have h1 := ih (by omega)
      have h2 := hp.2.2.ge hy
      have h3 : 2 ^ l[k + 1].toNat = 2 * 2 ^ (l[k + 1].toNat - 1) := by
        rw [← Nat.pow_succ']; congr 1; omega
      rw [pm_succ hy]
      omega
  have := h (l.length - 1) (by have := hp.1; omega)
  rw [show l.length - 1 + 1 = l.length by have := hp.1; omega] at this
  exact this

/-- the trailing ones taken off: what is left, and how many there were -/
def D (t : Nat) : Nat × Nat := if h : t % 2 = 1 then ((D (t / 2)).1, (D (t / 2)).2 + 1) else (t, 0)
termination_by t
decreasing_by all_goals omega
theorem D_odd {t : Nat} (h : t % 2 = 1) : D t = ((D (t / 2)).1, (D (t / 2)).2 + 1) := by rw [D, dif_pos h]
theorem D_even {t : Nat} (h : ¬ t % 2 = 1) : D t = (t, 0) := by rw [D, dif_neg h]
theorem D_eq (t : Nat) : t + 1 = ((D t).1 + 1) * 2 ^ (D t).2 := by
  induction t using Nat.strongRecOn with
  | ind t ih =>
    by_cases h : t % 2 = 1
    · rw [D_odd h]
      have := ih (t / 2) (by omega)
      show t + 1 = ((D (t / 2)).1 + 1) * 2 ^ ((D (t / 2)).2 + 1)
      rw [Nat.pow_succ, ← Nat.mul_assoc, ← this]
      omega
    · rw [D_even h]; simp
theorem D_even_res (t : Nat) : (D t).1 % 2 = 0 := by
  induction t using Nat.strongRecOn with
  | ind t ih =>
    by_cases h : t % 2 = 1
    · rw [D_odd h]; exact ih (t / 2) (by omega)
    · rw [D_even h]; show t % 2 = 0; omega
theorem D_le (t : Nat) : (D t).1 ≤ t := by
  have := D_eq t
  have h1 : 1 ≤ 2 ^ (D t).2 := Nat.one_le_two_pow
  have h2 : ((D t).1 + 1) * 1 ≤ ((D t).1 + 1) * 2 ^ (D t).2 := Nat.mul_le_mul_left _ h1
  omega
theorem D_num_le {t n : Nat} (h : t < 2 ^ n) : (D t).2 ≤ n := by
  have h0 := D_eq t
  have h1 : 2 ^ (D t).2 ≤ ((D t).1 + 1) * 2 ^ (D t).2 := Nat.le_mul_of_pos_left _ (by omega)
  have h2 : 2 ^ (D t).2 ≤ 2 ^ n := by omega
  exact (Nat.pow_le_pow_iff_right (by decide)).1 h2

/-- a state is laid on: the next one -/
def nx (m s : Nat) : Option Nat := if s &&& m = 0 then some (D (s + m)).1 else none
theorem nx_lt {m s c d : Nat} (hm : m % 2 = 1) (hd : 2 ^ d ≤ m ∧ m < 2 ^ (d + 1)) (hs : s < 2 ^ d) (hse : s % 2 = 0) (hdd : d ≤ 12) (h : nx m s = some c) : c < 2 ^ d := by
  unfold nx at h
  split at h
  · rename_i h0
    injection h with h
    have hor : s ||| m = s + m := or_add (by have : (2 : Nat) ^ d ≤ 2 ^ 12 := Nat.pow_le_pow_right (by decide) hdd; omega) (by have : (2 : Nat) ^ (d + 1) ≤ 2 ^ 13 := Nat.pow_le_pow_right (by decide) (by omega); omega) h0
    have hlt : s + m < 2 ^ (d + 1) := by
      rw [← hor]; exact Nat.or_lt_two_pow (by rw [Nat.pow_succ]; omega) hd.2
    have h1 := D_eq (s + m)
    have h2 : (s + m) % 2 = 1 := by omega
    rw [D_odd h2] at h1 h
    simp only at h1 h
    rw [h, Nat.pow_succ] at h1
    have h3 : 1 ≤ 2 ^ (D ((s + m) / 2)).2 := Nat.one_le_two_pow
    have h4 : (c + 1) * 1 ≤ (c + 1) * 2 ^ (D ((s + m) / 2)).2 := Nat.mul_le_mul_left _ h3
    rw [← Nat.mul_assoc] at h1
    rw [Nat.pow_succ] at hlt
    omega
  · cases h
theorem nx_inj {m a b c d : Nat} (hd : 2 ^ d ≤ m ∧ m < 2 ^ (d + 1)) (ha : a < 2 ^ d) (hb : b < 2 ^ d) (hdd : d ≤ 12) (h1 : nx m a = some c) (h2 : nx m b = some c) : a = b := by
  have key : ∀ s, s < 2 ^ d → nx m s = some c → ∃ n, s + m + 1 = (c + 1) * 2 ^ n ∧ 2 ^ d < (c + 1) * 2 ^ n ∧ (c + 1) * 2 ^ n ≤ 2 ^ (d + 1) := by
    intro s hs h
    unfold nx at h
    split at h
    · rename_i h0
      injection h with h
      have hor : s ||| m = s + m := or_add (by have : (2 : Nat) ^ d ≤ 2 ^ 12 := Nat.pow_le_pow_right (by decide) hdd; omega) (by have : (2 : Nat) ^ (d + 1) ≤ 2 ^ 13 := Nat.pow_le_pow_right (by decide) (by omega); omega) h0
      have hlt : s + m < 2 ^ (d + 1) := by
        rw [← hor]; exact Nat.or_lt_two_pow (by rw [Nat.pow_succ]; omega) hd.2
      have h1 := D_eq (s + m)
      rw [h] at h1
      exact ⟨_, h1, by omega, by omega⟩
    · cases h
  obtain ⟨na, a1, a2, a3⟩ := key a ha h1
  obtain ⟨nb, b1, b2, b3⟩ := key b hb h2
  have : na = nb := by
    rcases Nat.lt_trichotomy na nb with h | h | h
    · exfalso
      have : 2 ^ (na + 1) ≤ 2 ^ nb := Nat.pow_le_pow_right (by decide) h
      rw [Nat.pow_succ] at this
      have := Nat.mul_le_mul_left (c + 1) this
      rw [← Nat.mul_assoc] at this
      rw [Nat.pow_succ] at b3
      omega
    · exact h
    · exfalso
      have : 2 ^ (nb + 1) ≤ 2 ^ na := Nat.pow_le_pow_right (by decide) h
      rw [Nat.pow_succ] at this
      have := Nat.mul_le_mul_left (c + 1) this
      rw [← Nat.mul_assoc] at this
      rw [Nat.pow_succ] at a3
      omega
  subst this
  omega

theorem php : ∀ (k n : Nat) (f : Nat → Nat), (∀ i, i < n → f i < k) → (∀ i j, i < n → j < n → f i = f j → i = j) → n ≤ k := by
  intro k
  induction k with
  | zero =>
    intro n f h _
    rcases Nat.eq_zero_or_pos n with h0 | h0
    · omega
    · have := h 0 h0; omega
  | succ k ih =>
    intro n f h hinj
    by_cases hex : ∃ i, i < n ∧ f i = k
    · obtain ⟨i0, hi0, hfi⟩ := hex
      have := ih (n - 1) (fun i => f (if i < i0 then i else i + 1)) (by
        intro i hi
        have h1 : (if i < i0 then i else i + 1) < n := by split <;> omega
        have h2 := h _ h1
        have h3 : f (if i < i0 then i else i + 1) ≠ k := by
          intro e
          have := hinj _ _ h1 hi0 (by rw [e, hfi])
          split at this <;> omega
        show f _ < k
        omega) (by
        intro i j hi hj e
        have h1 : (if i < i0 then i else i + 1) < n := by split <;> omega
        have h2 : (if j < i0 then j else j + 1) < n := by split <;> omega
        have := hinj _ _ h1 h2 e
        split at this <;> split at this <;> omega)
      omega
    · have := ih n f (by
        intro i hi
        have h1 := h i hi
        have h2 : f i ≠ k := fun e => hex ⟨i, hi, e⟩
        omega) hinj
      omega

/-- the whole run from a state on, with fuel: (false, time, []) where it fails; (true, period, entries) where it comes back to nought; none: out of fuel -/
def run (m : Nat) : Nat → Nat → Nat → List Nat → Option (Bool × Nat × List Nat)
  | 0, _, _, _ => none
  | f + 1, s, t, es =>
    if s &&& m = 0 then
      if (D (s + m)).1 = 0 then some (true, t + (D (s + m)).2, es ++ [t])
      else run m f (D (s + m)).1 (t + (D (s + m)).2) (es ++ [t])
    else some (false, t, [])
theorem run_fail {m f s t : Nat} {es : List Nat} (h : ¬ s &&& m = 0) : run m (f + 1) s t es = some (false, t, []) := by rw [run, if_neg h]
theorem run_done {m f s t : Nat} {es : List Nat} (h : s &&& m = 0) (h0 : (D (s + m)).1 = 0) : run m (f + 1) s t es = some (true, t + (D (s + m)).2, es ++ [t]) := by rw [run, if_pos h, if_pos h0]
theorem run_on {m f s t : Nat} {es : List Nat} (h : s &&& m = 0) (h0 : ¬ (D (s + m)).1 = 0) : run m (f + 1) s t es = run m f (D (s + m)).1 (t + (D (s + m)).2) (es ++ [t]) := by rw [run, if_pos h, if_neg h0]
theorem run_none {m : Nat} : ∀ {f s t : Nat} {es : List Nat}, run m f s t es = none → ∃ ch : Nat → Nat, ch 0 = s ∧ ∀ i, i < f → nx m (ch i) = some (ch (i + 1)) ∧ ch (i + 1) ≠ 0 := by
  intro f
  induction f with
  | zero => intro s t es _; exact ⟨fun _ => s, rfl, fun i h => absurd h (Nat.not_lt_zero i)⟩
  | succ f ih =>
    intro s t es h
    by_cases h1 : s &&& m = 0
    · by_cases h2 : (D (s + m)).1 = 0
      · rw [run_done h1 h2] at h; cases h
      · rw [run_on h1 h2] at h
        obtain ⟨ch, hc0, hc⟩ := ih h
        refine ⟨fun i => if i = 0 then s else ch (i - 1), rfl, fun i hi => ?_⟩
        cases i with
        | zero =>
          simp only [if_true, Nat.zero_add, Nat.one_ne_zero, if_false, Nat.sub_self, hc0]
          exact ⟨by unfold nx; rw [if_pos h1], h2⟩
        | succ i =>
          have := hc i (by omega)
          simpa using this
    · rw [run_fail h1] at h; cases h
/-- the run of a valid pattern ends. -/
theorem run_ends {m d : Nat} (hm : m % 2 = 1) (hd : 2 ^ d ≤ m ∧ m < 2 ^ (d + 1)) (hdd : d ≤ 12) : run m 4097 0 0 [] ≠ none := by
  intro h
  obtain ⟨ch, h0, hc⟩ := run_none h
  have hlt : ∀ i, i ≤ 4097 → ch i < 2 ^ d ∧ ch i % 2 = 0 := by
    intro i
    induction i with
    | zero => intro _; rw [h0]; exact ⟨Nat.two_pow_pos d, rfl⟩
    | succ i ih =>
      intro hi
      have h1 := ih (by omega)
      have h2 := (hc i (by omega)).1
      refine ⟨nx_lt hm hd h1.1 h1.2 hdd h2, ?_⟩
      unfold nx at h2
      split at h2
      · injection h2 with h2
        rw [← h2]; exact D_even_res _
      · cases h2
  have hback : ∀ i j, i < j → j ≤ 4097 → ch i ≠ ch j := by
    intro i
    induction i with
    | zero =>
      intro j hj hj2 e
      rw [h0] at e
      have := (hc (j - 1) (by omega)).2
      rw [show j - 1 + 1 = j by omega] at this
      exact this e.symm
    | succ i ih =>
      intro j hj hj2 e
      have h1 := (hc i (by omega)).1
      have h2 := (hc (j - 1) (by omega)).1
      rw [show j - 1 + 1 = j by omega, ← e] at h2
      exact ih (j - 1) (by omega) (by omega) (nx_inj hd (hlt i (by omega)).1 (hlt (j - 1) (by omega)).1 hdd h1 h2)
  have hp : (2 : Nat) ^ d ≤ 2 ^ 12 := Nat.pow_le_pow_right (by decide) hdd
  have := php 4096 4097 ch (fun i hi => by have := (hlt i (by omega)).1; omega) (by
    intro i j hi hj e
    rcases Nat.lt_trichotomy i j with h | h | h
    · exact absurd e (hback i j h (by omega))
    · exact h
    · exact absurd e.symm (hback j i h (by omega)))
  omega

/-- how a valid pattern's run ends; what is not valid fails at once -/
def outc (l : List Int) : Bool × Nat × List Nat := if patB l = true then (run (maskN l) 4097 0 0 []).getD (false, 0, []) else (false, 0, [])
theorem outc_f {l : List Int} (h : ¬ PatOk l) : outc l = (false, 0, []) := by unfold outc; rw [if_neg (by rw [patB_f h]; simp)]
theorem outc_t {l : List Int} (h : PatOk l) : run (maskN l) 4097 0 0 [] = some (outc l) := by
  have h1 := run_ends (maskN_odd h) (maskN_top h) (topN_le h)
  unfold outc
  rw [if_pos (patB_t h)]
  cases e : run (maskN l) 4097 0 0 [] with
  | none => exact absurd e h1
  | some r => rfl
theorem outc_at {l : List Int} {f s t : Nat} {es : List Nat} {r : Bool × Nat × List Nat} (h : PatOk l) (h1 : run (maskN l) f s t es = run (maskN l) 4097 0 0 []) (h2 : run (maskN l) f s t es = some r) : outc l = r := by
  rw [outc_t h, h2] at h1
  injection h1 with h1
  exact h1.symm
def esI (es : List Nat) : List Int := es.map fun (n : Nat) => (n : Int)
theorem esI_len (es : List Nat) : (esI es).length = es.length := by simp [esI]
theorem esI_snoc (es : List Nat) (t : Nat) : esI (es ++ [t]) = esI es ++ [(t : Int)] := by simp [esI]
theorem step_facts {m s : Nat} (hm : m % 2 = 1) (hm2 : m < 8192) (hs : s < 8192) (hs2 : s % 2 = 0) : (D (s + m)).1 < 8192 ∧ (D (s + m)).1 % 2 = 0 ∧ (D (s + m)).2 ≤ 14 := by
  refine ⟨?_, D_even_res _, D_num_le (by omega)⟩
  rw [D_odd (by omega)]
  have := D_le ((s + m) / 2)
  show (D ((s + m) / 2)).1 < 8192
  omega
end Go.Proofs.YtpnbcgnbkanebaaDoor
