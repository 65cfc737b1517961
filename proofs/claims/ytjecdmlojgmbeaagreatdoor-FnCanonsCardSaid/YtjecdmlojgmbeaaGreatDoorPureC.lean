/- Plain facts on a sorted list without its repetitions. -/
import Derived.Test.YtjecdmlojgmbeaaGreatDoorPureR
import Derived.Lib.SlicesCompact
namespace Go.Proofs.YtjecdmlojgmbeaaGreatDoor
open Go.Lib
def sortL (l : List Int) : List Int := l.mergeSort fun x y => decide (x ≤ y)
/-- sorted, each number once -/
def colL (l : List Int) : List Int := compact (sortL l)
theorem sortL_len (l : List Int) : (sortL l).length = l.length := List.length_mergeSort l
theorem mem_sortL {l : List Int} {x : Int} : x ∈ sortL l ↔ x ∈ l := List.mem_mergeSort
theorem sortL_sorted (l : List Int) : (sortL l).Pairwise (· ≤ ·) := by
  have := List.pairwise_mergeSort (le := fun x y : Int => decide (x ≤ y)) (by simp; omega) (by simp; omega) l
  exact this.imp (by simp)
theorem getB_eq {zs : List Int} {i : Nat} (h : i < zs.length) : zs.toArray[i]! = zs[i] := by simp [h]
theorem compact_spec (zs : List Int) (hs : zs.Pairwise (· ≤ ·)) : ∀ m, m ≤ zs.length → Inc (compactUpTo zs.toArray m) ∧ (∀ x, x ∈ compactUpTo zs.toArray m ↔ x ∈ zs.take m) ∧ ∀ x ∈ compactUpTo zs.toArray m, ∀ y, 0 < m → zs[m - 1]? = some y → x ≤ y := by
  intro m
  induction m with
  | zero => intro _; simp [compactUpTo, Inc]
  | succ m ih =>
    intro hm
    obtain ⟨h1, h2, h3⟩ := ih (by omega)
    have hml : m < zs.length := by omega
    have hx : zs[m]? = some zs[m] := List.getElem?_eq_getElem hml
    rw [compactUpTo_succ, getB_eq hml, take_succ hx]
    by_cases h0 : m = 0
    · subst h0
      have hk : keeps zs.toArray 0 = true := by simp [keeps]
      rw [hk, if_pos rfl]
      simp [compactUpTo, Inc, hx]
    · have hy : zs[m - 1]? = some zs[m - 1] := List.getElem?_eq_getElem (by omega)
      have hle : zs[m - 1] ≤ zs[m] := (List.pairwise_iff_getElem.1 hs) (m - 1) m (by omega) hml (by omega)
      by_cases he : zs[m] = zs[m - 1]
      · have hk : keeps zs.toArray m = false := keeps_neg (by omega) (by rw [getB_eq hml, getB_eq (by omega), he])
        rw [hk]
        simp only [Bool.false_eq_true, if_false, List.append_nil]
        refine ⟨h1, fun x => ?_, fun x hxm y _ hy' => ?_⟩
        · rw [h2, List.mem_append, List.mem_singleton]
          refine ⟨.inl, ?_⟩
          rintro (h | h)
          · exact h
          · rw [h, he]
            have : (zs.take m)[m - 1]? = some zs[m - 1] := by rw [List.getElem?_take, if_pos (by omega)]; exact hy
            exact List.mem_of_getElem? this
        · have h4 := h3 x hxm _ (by omega) hy
          simp only [Nat.add_sub_cancel] at hy'
          rw [hx] at hy'
          cases hy'
          omega
      · have hk : keeps zs.toArray m = true := keeps_pos (by rw [getB_eq hml, getB_eq (by omega)]; exact he)
        rw [hk, if_pos rfl]
        refine ⟨h1.snoc fun z hz => ?_, fun x => ?_, fun x hxm y _ hy' => ?_⟩
        · have := h3 z hz _ (by omega) hy
          omega
        · rw [List.mem_append, List.mem_append, h2]
        · simp only [Nat.add_sub_cancel] at hy'
          rw [hx] at hy'
          cases hy'
          rcases List.mem_append.1 hxm with h | h
          · have := h3 x h _ (by omega) hy; omega
          · simp at h; omega
theorem colL_inc (l : List Int) : Inc (colL l) := (compact_spec (sortL l) (sortL_sorted l) _ (Nat.le_refl _)).1
theorem mem_colL {l : List Int} {x : Int} : x ∈ colL l ↔ x ∈ l := by
  unfold colL compact
  rw [(compact_spec (sortL l) (sortL_sorted l) _ (Nat.le_refl _)).2.1, List.take_length, mem_sortL]
/-- the rhythm of some numbers, by sorting -/
theorem colL_rh {n : Nat} {l : List Int} (h : ∀ x ∈ l, 0 ≤ x ∧ x < n) : colL l = rhL n l :=
  inc_ext (colL_inc l) (rhL_inc n l) fun x => by rw [mem_colL, mem_rhL]; exact ⟨fun h' => ⟨h x h', h'⟩, fun h' => h'.2⟩
end Go.Proofs.YtjecdmlojgmbeaaGreatDoor
