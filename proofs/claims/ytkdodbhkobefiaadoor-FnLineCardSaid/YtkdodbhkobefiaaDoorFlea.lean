/- Contracts: l13Least and, with it, the reference's LinePeriod and PeriodEntries. -/
import Derived.Test.YtkdodbhkobefiaaDoorFline
namespace Go.Proofs.YtkdodbhkobefiaaDoor
open Go.RowKit
theorem mem_esI {n : Nat} {es : List Nat} : (n : Int) ∈ esI es ↔ n ∈ es := by
  unfold esI
  rw [List.mem_map]
  constructor
  · rintro ⟨a, ha, h⟩
    have : a = n := by omega
    rw [← this]; exact ha
  · intro h; exact ⟨n, h, rfl⟩
theorem esI_get {es : List Nat} {k n : Nat} (h : es[k]? = some n) : (esI es)[k]? = some (n : Int) := by
  unfold esI; rw [List.getElem?_map, h]; rfl
/-- no smaller period repeats the entries -/
def LeastP (p : Nat) (es : List Nat) : Prop := ∀ q, 0 < q → q < p → p % q = 0 → ∃ t, t ∈ es ∧ ¬ (t + q) % p ∈ es
theorem all_snoc {es : List Nat} {k t : Nat} {P : Nat → Prop} (ht : es[k]? = some t) : (∀ e ∈ es.take (k + 1), P e) ↔ (∀ e ∈ es.take k, P e) ∧ P t := by
  rw [List.take_add_one, ht]
  constructor
  · intro h; exact ⟨fun e he => h e (List.mem_append_left _ he), h t (by simp)⟩
  · rintro ⟨h1, h2⟩ e he
    rcases List.mem_append.1 he with h | h
    · exact h1 e h
    · simp at h; rw [h]; exact h2
theorem pe_len (l : List Int) : (esI (outc l).2.2).length ≤ 1000000 := by have := (outc_bound l).2; rw [esI_len]; omega
end Go.Proofs.YtkdodbhkobefiaaDoor
