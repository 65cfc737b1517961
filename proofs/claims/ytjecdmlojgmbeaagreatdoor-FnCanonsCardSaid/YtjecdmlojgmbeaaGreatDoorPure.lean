/- Plain facts on lists of ints: no program in sight. -/
namespace Go.Proofs.YtjecdmlojgmbeaaGreatDoor

/-- Element k of l is x: it lies from lo to hi, and above the element ahead of it. -/
def AscAt (lo hi : Int) (l : List Int) (k : Nat) (x : Int) : Prop := lo ≤ x ∧ x ≤ hi ∧ ∀ y, 0 < k → l[k - 1]? = some y → y < x
/-- The first n elements are so. -/
def AscN (lo hi : Int) (l : List Int) (n : Nat) : Prop := ∀ k x, k < n → l[k]? = some x → AscAt lo hi l k x
def Asc (lo hi : Int) (l : List Int) : Prop := AscN lo hi l l.length
theorem AscN.zero (lo hi : Int) (l : List Int) : AscN lo hi l 0 := fun k _ h => absurd h (Nat.not_lt_zero k)
theorem AscN.succ {lo hi : Int} {l : List Int} {n : Nat} {x : Int} (h : AscN lo hi l n) (hx : l[n]? = some x) (ha : AscAt lo hi l n x) : AscN lo hi l (n + 1) := by
  intro k y hk hy
  by_cases e : k = n
  · subst e; rw [hx] at hy; cases hy; exact ha
  · exact h k y (by omega) hy
theorem AscN.not_of {lo hi : Int} {l : List Int} {n : Nat} {x : Int} (hx : l[n]? = some x) (ha : ¬ AscAt lo hi l n x) : ¬ Asc lo hi l := by
  intro h
  exact ha (h n x (List.getElem?_eq_some_iff.1 hx).1 hx)

/-- A pattern: not empty, from 0 on, ascending, at most 12. -/
def PatOk (l : List Int) : Prop := 0 < l.length ∧ l[0]? = some 0 ∧ Asc 0 12 l

theorem take_pad_get {l : List Int} {k : Nat} {x : Int} (hx : l[k]? = some x) : (l.take k ++ List.replicate (l.length - k) (0 : Int))[k]? = some 0 := by
  have hk : k < l.length := (List.getElem?_eq_some_iff.1 hx).1
  have e : (l.take k).length = k := by simp; omega
  rw [List.getElem?_append_right (by omega), e, Nat.sub_self, List.getElem?_replicate, if_pos (by omega)]
theorem take_pad_set {l : List Int} {k : Nat} {x : Int} (hx : l[k]? = some x) : (l.take k ++ List.replicate (l.length - k) (0 : Int)).set k x = l.take (k + 1) ++ List.replicate (l.length - (k + 1)) 0 := by
  have hk : k < l.length := (List.getElem?_eq_some_iff.1 hx).1
  have e : (l.take k).length = k := by simp; omega
  rw [List.set_append_right _ _ (by omega), e, Nat.sub_self, List.take_add_one, hx, show l.length - k = (l.length - (k + 1)) + 1 by omega, List.replicate_succ]
  simp
theorem take_succ {l : List Int} {k : Nat} {x : Int} (hx : l[k]? = some x) : l.take (k + 1) = l.take k ++ [x] := by
  rw [List.take_add_one, hx]; rfl

/-- Asc, by reckoning. -/
def ascB (lo hi : Int) (l : List Int) : Bool :=
  (List.range l.length).all fun k => decide (lo ≤ l.getD k 0) && decide (l.getD k 0 ≤ hi) && (k == 0 || decide (l.getD (k - 1) 0 < l.getD k 0))
theorem getD_of {l : List Int} {k : Nat} {x : Int} (h : l[k]? = some x) : l.getD k 0 = x := by simp [List.getD, h]
theorem get_of_lt {l : List Int} {k : Nat} (h : k < l.length) : l[k]? = some (l.getD k 0) := by
  rw [List.getElem?_eq_getElem h]; simp [List.getD, h]
theorem ascB_iff (lo hi : Int) (l : List Int) : ascB lo hi l = true ↔ Asc lo hi l := by
  unfold ascB Asc AscN AscAt
  simp only [List.all_eq_true, List.mem_range, Bool.and_eq_true, Bool.or_eq_true, decide_eq_true_eq, beq_iff_eq]
  constructor
  · intro h k x hk hx
    have := h k hk
    rw [getD_of hx] at this
    refine ⟨this.1.1, this.1.2, fun y h0 hy => ?_⟩
    rcases this.2 with e | e
    · omega
    · rw [getD_of hy] at e; exact e
  · intro h k hk
    have := h k _ hk (get_of_lt hk)
    refine ⟨⟨this.1, this.2.1⟩, ?_⟩
    by_cases e : k = 0
    · exact .inl e
    · exact .inr (this.2.2 _ (by omega) (get_of_lt (by omega)))
def patB (l : List Int) : Bool := decide (0 < l.length) && (l.getD 0 1 == 0) && ascB 0 12 l
theorem patB_iff (l : List Int) : patB l = true ↔ PatOk l := by
  unfold patB PatOk
  simp only [Bool.and_eq_true, decide_eq_true_eq, beq_iff_eq, ascB_iff, and_assoc]
  refine and_congr_right fun h => and_congr_left fun _ => ?_
  cases l with
  | nil => simp at h
  | cons a t => simp
theorem patB_t {l : List Int} (h : PatOk l) : patB l = true := (patB_iff l).2 h
theorem patB_f {l : List Int} (h : ¬ PatOk l) : patB l = false := by
  cases e : patB l with
  | false => rfl
  | true => exact absurd ((patB_iff l).1 e) h

/-! Facts on ascending lists and patterns. -/
theorem Asc.at_ {lo hi : Int} {l : List Int} (h : Asc lo hi l) {k : Nat} {x : Int} (hx : l[k]? = some x) : lo ≤ x ∧ x ≤ hi :=
  ⟨(h k x (List.getElem?_eq_some_iff.1 hx).1 hx).1, (h k x (List.getElem?_eq_some_iff.1 hx).1 hx).2.1⟩
theorem Asc.ge {lo hi : Int} {l : List Int} (h : Asc lo hi l) : ∀ {k : Nat} {x : Int}, l[k]? = some x → lo + k ≤ x := by
  intro k
  induction k with
  | zero => intro x hx; have := (h.at_ hx).1; omega
  | succ k ih =>
    intro x hx
    have hk := (List.getElem?_eq_some_iff.1 hx).1
    have hy : l[k]? = some l[k] := List.getElem?_eq_getElem (by omega)
    have h1 := ih hy
    have h2 := (h (k + 1) x hk hx).2.2 l[k] (by omega) hy
    omega
theorem Asc.len {lo hi : Int} {l : List Int} (h : Asc lo hi l) (hlh : lo ≤ hi + 1) : (l.length : Int) ≤ hi + 1 - lo := by
  by_cases e : l.length = 0
  · omega
  · have hy := get_of_lt (l := l) (k := l.length - 1) (by omega)
    have h1 := h.ge hy
    have h2 := (h.at_ hy).2
    omega
theorem PatOk.len {l : List Int} (h : PatOk l) : 1 ≤ l.length ∧ l.length ≤ 13 := by
  have := h.2.2.len (by omega)
  have := h.1
  omega
theorem PatOk.at_ {l : List Int} (h : PatOk l) {k : Nat} {x : Int} (hx : l[k]? = some x) : 0 ≤ x ∧ x ≤ 12 := h.2.2.at_ hx
theorem PatOk.mem {l : List Int} (h : PatOk l) {x : Int} (hx : x ∈ l) : 0 ≤ x ∧ x ≤ 12 := by
  obtain ⟨k, hk, rfl⟩ := List.getElem_of_mem hx
  exact h.at_ (List.getElem?_eq_getElem hk)

/-- the last element of a list -/
def lastI (l : List Int) : Int := l.getD (l.length - 1) 0
theorem lastI_get {l : List Int} (h : 0 < l.length) : l[l.length - 1]? = some (lastI l) := get_of_lt (by omega)
/-- the mirror: the last element minus each -/
def mirL (l : List Int) : List Int := l.reverse.map fun x => lastI l - x
def mirI (l : List Int) : List Int := if patB l = true then mirL l else []
theorem mirI_t {l : List Int} (h : PatOk l) : mirI l = mirL l := by unfold mirI; rw [if_pos (patB_t h)]
theorem mirI_f {l : List Int} (h : ¬ PatOk l) : mirI l = [] := by unfold mirI; rw [if_neg (by rw [patB_f h]; simp)]
theorem mirL_len (l : List Int) : (mirL l).length = l.length := by simp [mirL]
theorem mirI_len (l : List Int) : (mirI l).length ≤ 13 := by
  unfold mirI
  split
  · rename_i h; rw [mirL_len]; exact ((patB_iff l).1 h).len.2
  · exact Nat.zero_le _
theorem rev_take_succ {l : List Int} {k : Nat} {x : Int} (hk : k < l.length) (hx : l[l.length - 1 - k]? = some x) : l.reverse.take (k + 1) = l.reverse.take k ++ [x] := by
  apply take_succ
  rw [List.getElem?_reverse hk, hx]
end Go.Proofs.YtjecdmlojgmbeaaGreatDoor
