/- Plain facts on the weights of pulses. -/
import Derived.Test.YtblkddjljncggaaPureR
import Derived.Test.YtblkddjljncggaaPureM
namespace Go.Proofs.Ytblkddjljncggaa
/-- the pulses of a part of division i -/
def unitN (l : List Int) (i : Nat) : Nat := (prodL (l.drop (i + 1))).toNat
/-- how many of the first i divisions begin a part at pulse p -/
def wc (l : List Int) : Nat → Nat → Nat
  | 0, _ => 0
  | i + 1, p => wc l i p + if p % unitN l i = 0 then 1 else 0
theorem wc_le (l : List Int) (i p : Nat) : wc l i p ≤ i := by
  induction i with
  | zero => exact Nat.le_refl _
  | succ i ih => unfold wc; split <;> omega
def wtN (l : List Int) (N i : Nat) : List Int := (List.range N).map fun p => ((wc l i p : Nat) : Int)
def wtIn (l : List Int) (N i : Nat) (ps : List Int) : List Int := (List.range N).map fun (p : Nat) => ((wc l i p + if (p : Int) ∈ ps then 1 else 0 : Nat) : Int)
theorem wtN_len (l : List Int) (N i : Nat) : (wtN l N i).length = N := by simp [wtN]
theorem wtIn_len (l : List Int) (N i : Nat) (ps : List Int) : (wtIn l N i ps).length = N := by simp [wtIn]
theorem wtN_zero (l : List Int) (N : Nat) : wtN l N 0 = List.replicate N 0 := by
  unfold wtN wc
  apply List.ext_getElem?
  intro k
  by_cases h : k < N <;> simp [h, List.getElem?_replicate]
theorem wtIn_nil (l : List Int) (N i : Nat) : wtIn l N i [] = wtN l N i := by simp [wtIn, wtN]
theorem wtN_get {l : List Int} {N i p : Nat} (h : p < N) : (wtN l N i)[p]? = some ((wc l i p : Nat) : Int) := by simp [wtN, h]
theorem wtIn_get {l : List Int} {N i p : Nat} {ps : List Int} (h : p < N) (hp : ¬ (p : Int) ∈ ps) : (wtIn l N i ps)[p]? = some ((wc l i p : Nat) : Int) := by simp [wtIn, h, hp]
theorem wtIn_set {l : List Int} {N i p : Nat} {ps : List Int} (hp : ¬ (p : Int) ∈ ps) : (wtIn l N i ps).set p ((wc l i p : Int) + 1) = wtIn l N i (ps ++ [(p : Int)]) := by
  apply List.ext_getElem?
  intro k
  rw [List.getElem?_set]
  by_cases hk : k < N
  · by_cases e : p = k
    · subst e; simp [wtIn, hk]
    · have e2 : ¬ (k : Int) = (p : Int) := by omega
      simp [wtIn, hk, e, e2]
  · simp [wtIn, hk]; omega
theorem wtIn_end {l : List Int} {N i : Nat} {ps : List Int} (h : ∀ p, p < N → ((p : Int) ∈ ps ↔ p % unitN l i = 0)) : wtIn l N i ps = wtN l N (i + 1) := by
  unfold wtIn wtN
  apply List.map_congr_left
  intro p hp
  rw [List.mem_range] at hp
  have := h p hp
  rw [show wc l (i + 1) p = wc l i p + if p % unitN l i = 0 then 1 else 0 from rfl]
  by_cases e : p % unitN l i = 0
  · rw [if_pos e, if_pos (this.2 e)]
  · rw [if_neg e, if_neg (fun h' => e (this.1 h'))]
theorem wtN_succ (l : List Int) (N i : Nat) : wtN l (N + 1) i = wtN l N i ++ [((wc l i N : Nat) : Int)] := by simp [wtN, List.range_succ]
/-- the weights of a valid meter -/
def wtI (l : List Int) : List Int := if MetOk l then wtN l (prodL l).toNat l.length else []
theorem wtI_f {l : List Int} (h : ¬ MetOk l) : wtI l = [] := by unfold wtI; rw [if_neg h]
theorem wtI_t {l : List Int} (h : MetOk l) {b : Nat} (hb : prodL l = b) : wtI l = wtN l b l.length := by unfold wtI; rw [if_pos h, hb]; rfl
theorem wtI_len (l : List Int) : (wtI l).length ≤ 1000000 := by
  unfold wtI
  split
  · rename_i h; rw [wtN_len]; have := h.2.2; omega
  · exact Nat.zero_le _
theorem layN_take (k n i : Nat) (h : i ≤ k) : (layN k n k).take i = layN k n i := by
  unfold layN
  rw [← List.map_take, List.take_range, Nat.min_eq_left h]
theorem layN_eq (k n : Nat) : layN k n k = layL k n := rfl
end Go.Proofs.Ytblkddjljncggaa
