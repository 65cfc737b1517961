/- Plain facts on phases: how many beats, the places of a number, the first least and the first greatest place. -/
import Derived.Test.YtjkgioimefagoaaPureR
import Derived.Lib.Slices
namespace Go.Proofs.Ytjkgioimefagoaa
/-- the lengths of lists -/
def cnts (rs : List (Int × List Int)) : List Int := rs.map fun r => (r.2.length : Int)
theorem cnts_len (rs : List (Int × List Int)) : (cnts rs).length = rs.length := by simp [cnts]
theorem cnts_take {rs : List (Int × List Int)} {k : Nat} {n : Int} {l : List Int} (h : rs[k]? = some (n, l)) : cnts (rs.take (k + 1)) = cnts (rs.take k) ++ [(l.length : Int)] := by
  unfold cnts; rw [List.take_add_one, h]; simp
theorem cnts_get {rs : List (Int × List Int)} {k : Nat} {n : Int} {l : List Int} (h : rs[k]? = some (n, l)) : (cnts rs)[k]? = some (l.length : Int) := by
  unfold cnts; rw [List.getElem?_map, h]; rfl
/-- the places below j at which n stands -/
def eqUp (n : Int) (cs : List Int) (j : Nat) : List Int := ((List.range j).filter fun k => decide (cs[k]? = some n)).map fun (k : Nat) => (k : Int)
theorem eqUp_t {n : Int} {cs : List Int} {j : Nat} (h : cs[j]? = some n) : eqUp n cs (j + 1) = eqUp n cs j ++ [(j : Int)] := by
  unfold eqUp; rw [List.range_succ, List.filter_append]; simp [h]
theorem eqUp_f {n x : Int} {cs : List Int} {j : Nat} (h : cs[j]? = some x) (hx : x ≠ n) : eqUp n cs (j + 1) = eqUp n cs j := by
  unfold eqUp; rw [List.range_succ, List.filter_append]; simp [h, hx]
theorem eqUp_len (n : Int) (cs : List Int) (j : Nat) : (eqUp n cs j).length ≤ j := by
  unfold eqUp; rw [List.length_map]
  exact Nat.le_trans (List.length_filter_le _ _) (by simp)
/-- the first place of the least of the first numbers -/
def lowUp (cs : List Int) : Nat → Nat
  | 0 => 0
  | j + 1 => if cs.getD j 0 < cs.getD (lowUp cs j) 0 then j else lowUp cs j
def highUp (cs : List Int) : Nat → Nat
  | 0 => 0
  | j + 1 => if cs.getD (highUp cs j) 0 < cs.getD j 0 then j else highUp cs j
theorem lowUp_t {cs : List Int} {j : Nat} (h : cs.getD j 0 < cs.getD (lowUp cs j) 0) : lowUp cs (j + 1) = j := by rw [lowUp, if_pos h]
theorem lowUp_f {cs : List Int} {j : Nat} (h : ¬ cs.getD j 0 < cs.getD (lowUp cs j) 0) : lowUp cs (j + 1) = lowUp cs j := by rw [lowUp, if_neg h]
theorem highUp_t {cs : List Int} {j : Nat} (h : cs.getD (highUp cs j) 0 < cs.getD j 0) : highUp cs (j + 1) = j := by rw [highUp, if_pos h]
theorem highUp_f {cs : List Int} {j : Nat} (h : ¬ cs.getD (highUp cs j) 0 < cs.getD j 0) : highUp cs (j + 1) = highUp cs j := by rw [highUp, if_neg h]
theorem lowUp_spec (cs : List Int) : ∀ j, 1 ≤ j → j ≤ cs.length → lowUp cs j < j ∧ cs.getD (lowUp cs j) 0 = Go.Lib.minOf (cs.take j) ∧ ∀ i, i < lowUp cs j → cs.getD i 0 ≠ cs.getD (lowUp cs j) 0 ∧ cs.getD (lowUp cs j) 0 ≤ cs.getD i 0 := by
  intro j
  induction j with
  | zero => intro h; omega
  | succ j ih =>
    intro _ hj
    by_cases h0 : j = 0
    · subst h0
      have h1 : lowUp cs (0 + 1) = 0 := by simp [lowUp]
      rw [h1, Go.Lib.minOf_one]
      exact ⟨by omega, rfl, fun i hi => by omega⟩
    · obtain ⟨h1, h2, h3⟩ := ih (by omega) (by omega)
      have hs := Go.Lib.minOf_step cs j (by omega) (by omega)
      have hall : ∀ i, i < j → cs.getD (lowUp cs j) 0 ≤ cs.getD i 0 := by
        intro i hi
        rw [h2]
        clear hs h3
        have : ∀ q, i < q → q ≤ j → Go.Lib.minOf (cs.take q) ≤ cs.getD i 0 := by
          intro q
          induction q with
          | zero => intro h; omega
          | succ q ihq =>
            intro hq hqj
            by_cases hq0 : q = 0
            · subst hq0
              have : i = 0 := by omega
              subst this
              rw [Go.Lib.minOf_one]; omega
            · rw [Go.Lib.minOf_step cs q (by omega) (by omega)]
              by_cases hiq : i = q
              · subst hiq; omega
              · have := ihq (by omega) (by omega); omega
        exact this j hi (Nat.le_refl _)
      by_cases hlt : cs.getD j 0 < cs.getD (lowUp cs j) 0
      · rw [lowUp_t hlt]
        refine ⟨by omega, by rw [hs, ← h2]; omega, fun i hi => ?_⟩
        have := hall i hi
        omega
      · rw [lowUp_f hlt]
        refine ⟨by omega, by rw [hs, ← h2]; omega, h3⟩
theorem highUp_spec (cs : List Int) : ∀ j, 1 ≤ j → j ≤ cs.length → highUp cs j < j ∧ cs.getD (highUp cs j) 0 = Go.Lib.maxOf (cs.take j) ∧ ∀ i, i < highUp cs j → cs.getD i 0 ≠ cs.getD (highUp cs j) 0 ∧ cs.getD i 0 ≤ cs.getD (highUp cs j) 0 := by
  intro j
  induction j with
  | zero => intro h; omega
  | succ j ih =>
    intro _ hj
    by_cases h0 : j = 0
    · subst h0
      have h1 : highUp cs (0 + 1) = 0 := by simp [highUp]
      rw [h1, Go.Lib.maxOf_one]
      exact ⟨by omega, rfl, fun i hi => by omega⟩
    · obtain ⟨h1, h2, h3⟩ := ih (by omega) (by omega)
      have hs := Go.Lib.maxOf_step cs j (by omega) (by omega)
      have hall : ∀ i, i < j → cs.getD i 0 ≤ cs.getD (highUp cs j) 0 := by
        intro i hi
        rw [h2]
        clear hs h3
        have : ∀ q, i < q → q ≤ j → cs.getD i 0 ≤ Go.Lib.maxOf (cs.take q) := by
          intro q
          induction q with
          | zero => intro h; omega
          | succ q ihq =>
            intro hq hqj
            by_cases hq0 : q = 0
            · subst hq0
              have : i = 0 := by omega
              subst this
              rw [Go.Lib.maxOf_one]; omega
            · rw [Go.Lib.maxOf_step cs q (by omega) (by omega)]
              by_cases hiq : i = q
              · subst hiq; omega
              · have := ihq (by omega) (by omega); omega
        exact this j hi (Nat.le_refl _)
      by_cases hlt : cs.getD (highUp cs j) 0 < cs.getD j 0
      · rw [highUp_t hlt]
        refine ⟨by omega, by rw [hs, ← h2]; omega, fun i hi => ?_⟩
        have := hall i hi
        omega
      · rw [highUp_f hlt]
        refine ⟨by omega, by rw [hs, ← h2]; omega, h3⟩
theorem low_idx {cs : List Int} (h : 1 ≤ cs.length) : Go.Lib.idxOf cs (Go.Lib.minOf cs) = (lowUp cs cs.length : Int) := by
  obtain ⟨h1, h2, h3⟩ := lowUp_spec cs cs.length h (Nat.le_refl _)
  rw [List.take_length] at h2
  have := Go.Lib.idxOf_hit cs cs.length (lowUp cs cs.length) (Go.Lib.minOf cs) h1 (Nat.le_refl _) h2 (fun j hj => by rw [← h2]; exact (h3 j hj).1)
  rw [List.take_length] at this
  exact this
theorem high_idx {cs : List Int} (h : 1 ≤ cs.length) : Go.Lib.idxOf cs (Go.Lib.maxOf cs) = (highUp cs cs.length : Int) := by
  obtain ⟨h1, h2, h3⟩ := highUp_spec cs cs.length h (Nat.le_refl _)
  rw [List.take_length] at h2
  have := Go.Lib.idxOf_hit cs cs.length (highUp cs cs.length) (Go.Lib.maxOf cs) h1 (Nat.le_refl _) h2 (fun j hj => by rw [← h2]; exact (h3 j hj).1)
  rw [List.take_length] at this
  exact this
end Go.Proofs.Ytjkgioimefagoaa
