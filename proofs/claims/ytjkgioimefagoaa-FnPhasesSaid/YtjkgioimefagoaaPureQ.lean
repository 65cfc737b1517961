/- Plain facts: the code of a rhythm, its greatest rotation, lists without doubles. -/
import Derived.Test.YtjkgioimefagoaaFpha
import Derived.Test.YtjkgioimefagoaaPureC
namespace Go.Proofs.Ytjkgioimefagoaa
def cod (n : Nat) (l : List Int) : Nat := l.foldl (fun a x => a ||| 2 ^ (n - 1 - x.toNat)) 0
theorem cod_take {n k : Nat} {l : List Int} {x : Int} (h : l[k]? = some x) : cod n (l.take (k + 1)) = cod n (l.take k) ||| 2 ^ (n - 1 - x.toNat) := by
  rw [List.take_add_one, h]; simp [cod, List.foldl_append]
theorem cod_bit (n : Nat) (l : List Int) (i : Nat) : (cod n l).testBit i = true ↔ ∃ x ∈ l, n - 1 - x.toNat = i := by
  have h : ∀ (l : List Int) (a : Nat), (l.foldl (fun a x => a ||| 2 ^ (n - 1 - x.toNat)) a).testBit i = true ↔ a.testBit i = true ∨ ∃ x ∈ l, n - 1 - x.toNat = i := by
    intro l
    induction l with
    | nil => intro a; simp
    | cons y t ih => intro a; rw [List.foldl_cons, ih, Nat.testBit_or, Bool.or_eq_true, Nat.testBit_two_pow]; simp [or_assoc]
  unfold cod
  rw [h]
  simp
theorem cod_at {n p : Nat} {l : List Int} (hl : ∀ x ∈ l, 0 ≤ x ∧ x < n) (hp : p < n) : (cod n l).testBit (n - 1 - p) = true ↔ (p : Int) ∈ l := by
  rw [cod_bit]
  constructor
  · rintro ⟨x, hx, e⟩
    have := hl x hx
    have e2 : x = p := by omega
    rw [← e2]; exact hx
  · intro h; exact ⟨p, h, by simp⟩
theorem cod_high {n i : Nat} (l : List Int) (hn : 1 ≤ n) (hi : n ≤ i) : (cod n l).testBit i = false := by
  cases h : (cod n l).testBit i with
  | false => rfl
  | true => obtain ⟨x, _, e⟩ := (cod_bit n l i).1 h; omega
theorem cod_lt {n : Nat} (l : List Int) (hn : 1 ≤ n) (h24 : n ≤ 24) : cod n l < 16777216 :=
  Nat.lt_pow_two_of_testBit (n := 24) (cod n l) fun i hi => cod_high l hn (by omega)
theorem cod_same {n : Nat} {a b : List Int} (hn : 1 ≤ n) (ha : ∀ x ∈ a, 0 ≤ x ∧ x < n) (hb : ∀ x ∈ b, 0 ≤ x ∧ x < n) (h : ∀ q : Nat, q < n → ((q : Int) ∈ a ↔ (q : Int) ∈ b)) : cod n a = cod n b := by
  refine Nat.eq_of_testBit_eq fun i => ?_
  by_cases hi : n ≤ i
  · rw [cod_high a hn hi, cod_high b hn hi]
  · have e : i = n - 1 - (n - 1 - i) := by omega
    rw [e, Bool.eq_iff_iff, cod_at ha (by omega), cod_at hb (by omega)]
    exact h _ (by omega)
theorem cod_inj {n : Nat} {a b : List Int} (ia : Inc a) (ib : Inc b) (ha : ∀ x ∈ a, 0 ≤ x ∧ x < n) (hb : ∀ x ∈ b, 0 ≤ x ∧ x < n) (h : cod n a = cod n b) : a = b := by
  have key : ∀ {c d : List Int}, (∀ x ∈ c, 0 ≤ x ∧ x < n) → (∀ x ∈ d, 0 ≤ x ∧ x < n) → cod n c = cod n d → ∀ x ∈ c, x ∈ d := by
    intro c d hc hd e x hx
    have hr := hc x hx
    have ep : x = (x.toNat : Int) := by omega
    rw [ep] at hx ⊢
    rw [← cod_at hd (by omega), ← e, cod_at hc (by omega)]
    exact hx
  exact inc_ext ia ib fun x => ⟨key ha hb h x, key hb ha h.symm x⟩
theorem lt_of_bits : ∀ (i x y : Nat), x.testBit i = false → y.testBit i = true → (∀ j, i < j → x.testBit j = y.testBit j) → x < y := by
  intro i
  induction i with
  | zero =>
    intro x y hx hy h
    rw [Nat.testBit_zero] at hx hy
    have h2 : x / 2 = y / 2 := Nat.eq_of_testBit_eq fun j => by rw [← Nat.testBit_succ, ← Nat.testBit_succ]; exact h (j + 1) (by omega)
    have h3 := of_decide_eq_true hy
    have h4 := of_decide_eq_false hx
    omega
  | succ i ih =>
    intro x y hx hy h
    rw [Nat.testBit_succ] at hx hy
    have := ih (x / 2) (y / 2) hx hy fun j hj => by rw [← Nat.testBit_succ, ← Nat.testBit_succ]; exact h (j + 1) (by omega)
    omega
theorem cod_after {n p : Nat} {a b : List Int} (ha : ∀ x ∈ a, 0 ≤ x ∧ x < n) (hb : ∀ x ∈ b, 0 ≤ x ∧ x < n) (hp : p < n) (h : ∀ q : Nat, q < p → ((q : Int) ∈ a ↔ (q : Int) ∈ b)) (h1 : (p : Int) ∈ a) (h2 : ¬ (p : Int) ∈ b) : cod n b < cod n a := by
  refine lt_of_bits (n - 1 - p) _ _ ?_ ((cod_at ha hp).2 h1) ?_
  · cases e : (cod n b).testBit (n - 1 - p) with
    | false => rfl
    | true => exact absurd ((cod_at hb hp).1 e) h2
  · intro j hj
    by_cases hi : n ≤ j
    · rw [cod_high a (by omega) hi, cod_high b (by omega) hi]
    · have e : j = n - 1 - (n - 1 - j) := by omega
      rw [e, Bool.eq_iff_iff, cod_at ha (by omega), cod_at hb (by omega)]
      exact (h _ (by omega)).symm
/-- the greatest of the rotations below k -/
def mxUp (n : Nat) (l : List Int) : Nat → List Int
  | 0 => rotL n l 0
  | k + 1 => if cod n (mxUp n l k) < cod n (rotL n l k) then rotL n l k else mxUp n l k
theorem mxUp_one (n : Nat) (l : List Int) : mxUp n l 1 = rotL n l 0 := by simp [mxUp]
theorem mxUp_t {n k : Nat} {l : List Int} (h : cod n (mxUp n l k) < cod n (rotL n l k)) : mxUp n l (k + 1) = rotL n l k := if_pos h
theorem mxUp_f {n k : Nat} {l : List Int} (h : ¬ cod n (mxUp n l k) < cod n (rotL n l k)) : mxUp n l (k + 1) = mxUp n l k := if_neg h
theorem mxUp_rot (n : Nat) (l : List Int) (k : Nat) : ∃ j : Int, mxUp n l k = rotL n l j := by
  induction k with
  | zero => exact ⟨0, rfl⟩
  | succ k ih =>
    rw [mxUp]
    split
    · exact ⟨k, rfl⟩
    · exact ih
theorem mxUp_inc (n : Nat) (l : List Int) (k : Nat) : Inc (mxUp n l k) := by obtain ⟨j, h⟩ := mxUp_rot n l k; rw [h]; exact rhL_inc n _
theorem mxUp_mem (n : Nat) (l : List Int) (k : Nat) : ∀ x ∈ mxUp n l k, 0 ≤ x ∧ x < n := by obtain ⟨j, h⟩ := mxUp_rot n l k; rw [h]; exact fun x hx => rotL_mem hx
theorem mxUp_len (n : Nat) (l : List Int) (k : Nat) : (mxUp n l k).length ≤ n := by obtain ⟨j, h⟩ := mxUp_rot n l k; rw [h]; exact rotL_len n l j
/-- the first k values of f without doubles -/
def ddUp (f : Nat → List Int) : Nat → List (List Int)
  | 0 => []
  | k + 1 => if f k ∈ ddUp f k then ddUp f k else ddUp f k ++ [f k]
theorem ddUp_t {f : Nat → List Int} {k : Nat} (h : f k ∈ ddUp f k) : ddUp f (k + 1) = ddUp f k := if_pos h
theorem ddUp_f {f : Nat → List Int} {k : Nat} (h : ¬ f k ∈ ddUp f k) : ddUp f (k + 1) = ddUp f k ++ [f k] := if_neg h
theorem dd_mem {f : Nat → List Int} {k : Nat} {x : List Int} : x ∈ ddUp f k ↔ ∃ j, j < k ∧ f j = x := by
  induction k with
  | zero => simp [ddUp]
  | succ k ih =>
    rw [ddUp]
    split
    · rename_i h
      rw [ih]
      constructor
      · rintro ⟨j, hj, e⟩; exact ⟨j, by omega, e⟩
      · rintro ⟨j, hj, e⟩
        by_cases hk : j = k
        · subst hk; rw [← e]; exact ih.1 (e ▸ h) |> fun ⟨i, hi, hi2⟩ => ⟨i, hi, hi2.trans e.symm⟩
        · exact ⟨j, by omega, e⟩
    · rw [List.mem_append, ih, List.mem_singleton]
      constructor
      · rintro (⟨j, hj, e⟩ | e)
        · exact ⟨j, by omega, e⟩
        · exact ⟨k, by omega, e.symm⟩
      · rintro ⟨j, hj, e⟩
        by_cases hk : j = k
        · subst hk; exact .inr e.symm
        · exact .inl ⟨j, by omega, e⟩
theorem dd_nodup (f : Nat → List Int) (k : Nat) : (ddUp f k).Nodup := by
  induction k with
  | zero => simp [ddUp]
  | succ k ih =>
    rw [ddUp]
    split
    · exact ih
    · rename_i h
      rw [List.nodup_append]
      exact ⟨ih, by simp, fun a ha b hb e => by simp at hb; subst hb; subst e; exact h ha⟩
theorem dd_len (f : Nat → List Int) (k : Nat) : (ddUp f k).length ≤ k := by
  induction k with
  | zero => simp [ddUp]
  | succ k ih =>
    rw [ddUp]
    split
    · omega
    · rw [List.length_append, List.length_singleton]; omega
theorem colL_nodup {m : List Int} (h : m.Nodup) : (colL m).length = m.length := by
  have hp : (sortL m).Perm m := List.mergeSort_perm m _
  have hn : (sortL m).Nodup := hp.nodup_iff.2 h
  have hi : Inc (sortL m) := by
    have := sortL_sorted m
    unfold Inc
    exact (List.pairwise_and_iff.2 ⟨this, hn⟩).imp fun h => by omega
  have e : colL m = sortL m := inc_ext (colL_inc m) hi fun x => by rw [mem_colL, mem_sortL]
  rw [e, sortL_len]
theorem dd_count {f : Nat → List Int} {k : Nat} (g : List Int → Int) (hg : ∀ i j, i < k → j < k → g (f i) = g (f j) → f i = f j) : (colL ((List.range k).map fun j => g (f j))).length = (ddUp f k).length := by
  have h1 : ((ddUp f k).map g).Nodup := by
    unfold List.Nodup
    rw [List.pairwise_map]
    refine List.Pairwise.imp_of_mem (fun {a b} ha hb hne e => ?_) (dd_nodup f k)
    obtain ⟨i, hi, rfl⟩ := dd_mem.1 ha
    obtain ⟨j, hj, rfl⟩ := dd_mem.1 hb
    exact hne (hg i j hi hj e)
  have e : colL ((List.range k).map fun j => g (f j)) = colL ((ddUp f k).map g) := by
    refine inc_ext (colL_inc _) (colL_inc _) fun x => ?_
    rw [mem_colL, mem_colL, List.mem_map, List.mem_map]
    constructor
    · rintro ⟨j, hj, rfl⟩; exact ⟨f j, dd_mem.2 ⟨j, List.mem_range.1 hj, rfl⟩, rfl⟩
    · rintro ⟨y, hy, rfl⟩
      obtain ⟨j, hj, rfl⟩ := dd_mem.1 hy
      exact ⟨j, List.mem_range.2 hj, rfl⟩
  rw [e, colL_nodup h1, List.length_map]
end Go.Proofs.Ytjkgioimefagoaa
