/- Plain facts on products of small numbers and meters. -/
import Derived.Test.YtblkddjljncggaaPure
namespace Go.Proofs.Ytblkddjljncggaa

def prodL (l : List Int) : Int := l.foldl (· * ·) 1
theorem prodL_snoc (l : List Int) (x : Int) : prodL (l ++ [x]) = prodL l * x := by simp [prodL, List.foldl_append]
theorem prodL_take {l : List Int} {k : Nat} {x : Int} (h : l[k]? = some x) : prodL (l.take (k + 1)) = prodL (l.take k) * x := by rw [take_succ h, prodL_snoc]
/-- at most five numbers, each from 1 to 7 -/
def Small (l : List Int) : Prop := l.length ≤ 5 ∧ ∀ x ∈ l, 1 ≤ x ∧ x ≤ 7
theorem Small.take {l : List Int} (h : Small l) (k : Nat) : Small (l.take k) := ⟨by have := h.1; simp; omega, fun x hx => h.2 x (List.mem_of_mem_take hx)⟩
theorem Small.drop {l : List Int} (h : Small l) (k : Nat) : Small (l.drop k) := ⟨by have := h.1; simp; omega, fun x hx => h.2 x (List.mem_of_mem_drop hx)⟩
theorem foldl_bound (l : List Int) : ∀ (a : Int), 1 ≤ a → (∀ x ∈ l, 1 ≤ x ∧ x ≤ 7) → 1 ≤ l.foldl (· * ·) a ∧ l.foldl (· * ·) a ≤ a * 7 ^ l.length := by
  induction l with
  | nil => intro a ha _; simpa using ha
  | cons x t ih =>
    intro a ha h
    have hx := h x (by simp)
    have h1 : 1 ≤ a * x := by
      have := Int.mul_le_mul ha hx.1 (by decide) (by omega)
      omega
    obtain ⟨h2, h3⟩ := ih (a * x) h1 (fun y hy => h y (by simp [hy]))
    refine ⟨h2, Int.le_trans h3 ?_⟩
    rw [List.length_cons, Int.pow_succ, Int.mul_assoc a, Int.mul_comm _ 7]
    rw [← Int.mul_assoc, ← Int.mul_assoc]
    apply Int.mul_le_mul_of_nonneg_right _ (Int.le_of_lt (Int.pow_pos (by decide)))
    exact Int.mul_le_mul_of_nonneg_left hx.2 (by omega)
theorem Small.prod {l : List Int} (h : Small l) : 1 ≤ prodL l ∧ prodL l ≤ 16807 := by
  obtain ⟨h1, h2⟩ := foldl_bound l 1 (by decide) h.2
  refine ⟨h1, Int.le_trans h2 ?_⟩
  have h3 : (7 : Int) ^ l.length ≤ 7 ^ 5 := by
    have := h.1
    match l.length, this with
    | 0, _ => decide
    | 1, _ => decide
    | 2, _ => decide
    | 3, _ => decide
    | 4, _ => decide
    | 5, _ => decide
  simp at h3 ⊢
  omega
/-- a valid meter -/
def MetOk (l : List Int) : Prop := (1 ≤ l.length ∧ l.length ≤ 5) ∧ (∀ x ∈ l, 2 ≤ x ∧ x ≤ 7) ∧ prodL l ≤ 24
theorem MetOk.small {l : List Int} (h : MetOk l) : Small l := ⟨h.1.2, fun x hx => by have := h.2.1 x hx; omega⟩
instance (l : List Int) : Decidable (MetOk l) := by unfold MetOk; infer_instance
def metSize (l : List Int) : Int := if MetOk l then prodL l else 0
end Go.Proofs.Ytblkddjljncggaa
