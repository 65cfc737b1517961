/- Contracts: PhaseCounts, FullPhases, ThinnestPhase, ThickestPhase on both sides. -/
import Derived.Test.YtaiigheknmndnaaFps
import Derived.Test.YtaiigheknmndnaaPureP
namespace Go.Proofs.Ytaiigheknmndnaa
open Go.RowKit
/-- the numbers of beats of the phases -/
def pcL (n : Int) (l : List Int) : List Int := cnts (phsL n l)
theorem pcL_len_t {n : Nat} {l : List Int} (h : RhyOk n l) : (pcL n l).length = n := by unfold pcL; rw [cnts_len, phsL_t h, phsN_len]
theorem phsL_len (n : Int) (l : List Int) : (phsL n l).length ≤ 24 := by
  by_cases h : RhyOk n l
  · obtain ⟨m, rfl, _, h24, _⟩ := h.nat
    rw [phsL_t h, phsN_len]; exact h24
  · rw [phsL_f h]; exact Nat.zero_le _
theorem pcL_len (n : Int) (l : List Int) : (pcL n l).length ≤ 1000000 := by unfold pcL; rw [cnts_len]; have := phsL_len n l; omega
theorem pcL_f {n : Int} {l : List Int} (h : ¬ RhyOk n l) : pcL n l = [] := by unfold pcL; rw [phsL_f h]; rfl
theorem pcL_get {n k : Nat} {l : List Int} (h : RhyOk n l) (hk : k < n) : (pcL n l)[k]? = some ((phL n l k).length : Int) := by
  unfold pcL; rw [phsL_t h]; exact cnts_get (phsN_get l hk)
theorem pcL_take {n k : Nat} {l : List Int} (h : RhyOk n l) (hk : k < n) : (pcL n l).take (k + 1) = (pcL n l).take k ++ [((phL n l k).length : Int)] := takeS (pcL_get h hk)
theorem phL_len {n : Nat} (l : List Int) (k : Int) : (phL n l k).length ≤ n := rhL_len n _
/-- a rhythm out of a row of rhythms -/
theorem Rhs.elem {w : World} {B : Nat} {v : Value} {us : List (Int × Value)} {rs : List (Int × List Int)} (h : Rhs w B v us rs) {k : Nat} (hk : k < us.length) :
    ∃ g c n A m cc l, v = .slice (some ⟨g, 0, none⟩) us.length c ∧ rs[k]? = some (n, l) ∧ m = l.length ∧ w.cell? ⟨g, k * 2, none⟩ = some (.int .i64 n) ∧ w.cell? ⟨g, k * 2 + 1, none⟩ = some (.slice A m cc) ∧ Own w B (.slice A m cc) l := by
  obtain ⟨g, c, hv, _⟩ := h.shape (by omega)
  subst hv
  have hp : us[k]? = some us[k] := List.getElem?_eq_getElem hk
  have hk2 : k < rs.length := by rw [← h.2.1]; exact hk
  have hr : rs[k]? = some rs[k] := List.getElem?_eq_getElem hk2
  obtain ⟨h1, h2⟩ := h.2.2.1 k _ _ hp hr
  obtain ⟨c0, c1⟩ := h.cell hp
  obtain ⟨A, m, cc, he⟩ := h2.form
  rw [he] at c1 h2
  exact ⟨g, c, rs[k].1, A, m, cc, rs[k].2, rfl, by rw [hr], h2.n_eq, by rw [← h1]; exact c0, c1, h2⟩
end Go.Proofs.Ytaiigheknmndnaa
