/- Contracts: EntriesOf on both sides: the entries of a pattern on a line, one after another. -/
import Derived.Test.YtgjpepgjlocfkaaFblock
namespace Go.Proofs.Ytgjpepgjlocfkaa
open Go.RowKit
def ent (m : Nat) : Nat → Nat → Nat → List Nat → Option (List Nat)
  | 0, _, _, es => some es
  | k + 1, s, t, es => if s &&& m = 0 then ent m k (D (s + m)).1 (t + (D (s + m)).2) (es ++ [t]) else none
theorem ent_on {m k s t : Nat} {es : List Nat} (h : s &&& m = 0) : ent m (k + 1) s t es = ent m k (D (s + m)).1 (t + (D (s + m)).2) (es ++ [t]) := by rw [ent, if_pos h]
theorem ent_off {m k s t : Nat} {es : List Nat} (h : ¬ s &&& m = 0) : ent m (k + 1) s t es = none := by rw [ent, if_neg h]
theorem ent_len {m : Nat} : ∀ {k s t : Nat} {es r : List Nat}, ent m k s t es = some r → r.length = es.length + k := by
  intro k
  induction k with
  | zero => intro s t es r h; rw [ent] at h; cases h; rfl
  | succ k ih =>
    intro s t es r h
    by_cases h0 : s &&& m = 0
    · rw [ent_on h0] at h
      have := ih h
      simp at this
      omega
    · rw [ent_off h0] at h; cases h
def entO (l : List Int) (n : Int) : Option (List Nat) := if patB l = true ∧ 0 ≤ n ∧ n ≤ 40 then ent (maskN l) n.toNat 0 0 [] else none
theorem entO_t {l : List Int} {n : Nat} (h : PatOk l) (hn : n ≤ 40) : entO l n = ent (maskN l) n 0 0 [] := by unfold entO; rw [if_pos ⟨patB_t h, by omega, by omega⟩]; rfl
theorem entO_f {l : List Int} {n : Int} (h : ¬ (PatOk l ∧ 0 ≤ n ∧ n ≤ 40)) : entO l n = none := by
  unfold entO; rw [if_neg (fun h' => h ⟨(patB_iff _).1 h'.1, h'.2⟩)]
def entL (l : List Int) (n : Int) : List Int := match entO l n with | some es => esI es | none => []
def entB (l : List Int) (n : Int) : Bool := (entO l n).isSome
theorem ent_none {l : List Int} {n : Int} (h : entO l n = none) : entL l n = [] ∧ entB l n = false := by unfold entL entB; rw [h]; exact ⟨rfl, rfl⟩
theorem ent_some {l : List Int} {n : Int} {es : List Nat} (h : entO l n = some es) : entL l n = esI es ∧ entB l n = true := by unfold entL entB; rw [h]; exact ⟨rfl, rfl⟩
theorem entL_len (l : List Int) (n : Int) : (entL l n).length ≤ 1000000 := by
  cases h : entO l n with
  | none => rw [(ent_none h).1]; exact Nat.zero_le _
  | some es =>
    rw [(ent_some h).1, esI_len]
    unfold entO at h
    split at h
    · rename_i hc
      have := ent_len h
      simp at this
      omega
    · cases h
def RLB (l : List Int) (b : Bool) (w : World) (e : Ending) (w' : World) : Prop := ∃ v, e = .returned (.tuple #[v, .bool b]) ∧ Own w' w.heap.size v l ∧ Ext w w'
end Go.Proofs.Ytgjpepgjlocfkaa
