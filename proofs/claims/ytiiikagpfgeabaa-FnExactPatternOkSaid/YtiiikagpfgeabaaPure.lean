/- Plain facts on lists of ints: no program in sight. -/
namespace Go.Proofs.Ytiiikagpfgeabaa

/-- Element k of l is x: it lies from lo to hi, and above the element ahead of it. -/
def AscAt (lo hi : Int) (l : List Int) (k : Nat) (x : Int) : Prop := lo ≤ x ∧ x ≤ hi ∧ ∀ y, 0 < k → l[k - 1]? = some y → y < x
/-- The first n elements are so. -/
def AscN (lo hi : Int) (l : List Int) (n : Nat) : Prop := ∀ k x, k < n → l[k]? = some x → AscAt lo hi l k x
def Asc (lo hi : Int) (l : List Int) : Prop := AscN lo hi l l.length
theorem AscN.zero (lo hi : Int) (l : List Int) : AscN lo hi l 0 := fun k _ h => absurd h (Nat.not_lt_zero k)
theorem AscN.succ {lo hi : Int} {l : List Int} {n : Nat} {x : Int} (h : AscN lo hi l n) (hx : l[n]? = some x) (ha : AscAt lo hi l n x) : AscN lo hi l (n + 1) := by
  intro k y hk hy
  by_cases e : k = n
  · subst e; rw [hx] at hy; cases hy; exact ha
  · exact h k y (by omega) hy
theorem AscN.not_of {lo hi : Int} {l : List Int} {n : Nat} {x : Int} (hx : l[n]? = some x) (ha : ¬ AscAt lo hi l n x) : ¬ Asc lo hi l := by
  intro h
  exact ha (h n x (List.getElem?_eq_some_iff.1 hx).1 hx)

/-- A pattern: not empty, from 0 on, ascending, at most 12. -/
def PatOk (l : List Int) : Prop := 0 < l.length ∧ l[0]? = some 0 ∧ Asc 0 12 l

theorem take_pad_get {l : List Int} {k : Nat} {x : Int} (hx : l[k]? = some x) : (l.take k ++ List.replicate (l.length - k) (0 : Int))[k]? = some 0 := by
  have hk : k < l.length := (List.getElem?_eq_some_iff.1 hx).1
  have e : (l.take k).length = k := by simp; omega
  rw [List.getElem?_append_right (by omega), e, Nat.sub_self, List.getElem?_replicate, if_pos (by omega)]
theorem take_pad_set {l : List Int} {k : Nat} {x : Int} (hx : l[k]? = some x) : (l.take k ++ List.replicate (l.length - k) (0 : Int)).set k x = l.take (k + 1) ++ List.replicate (l.length - (k + 1)) 0 := by
  have hk : k < l.length := (List.getElem?_eq_some_iff.1 hx).1
  have e : (l.take k).length = k := by simp; omega
  rw [List.set_append_right _ _ (by omega), e, Nat.sub_self, List.take_add_one, hx, show l.length - k = (l.length - (k + 1)) + 1 by omega, List.replicate_succ]
  simp
theorem take_succ {l : List Int} {k : Nat} {x : Int} (hx : l[k]? = some x) : l.take (k + 1) = l.take k ++ [x] := by
  rw [List.take_add_one, hx]; rfl
end Go.Proofs.Ytiiikagpfgeabaa
