/- Plain facts: what FnCovers asks of the patterns, read off the check. -/
import Derived.Test.YtpnbcgnbkanebaaDoorPureN
namespace Go.Proofs.YtpnbcgnbkanebaaDoor
theorem adjB_get : ∀ {L : List (List Int)} {i : Nat} {x y : List Int}, adjB L = true → L[i]? = some x → L[i + 1]? = some y → lexB x y = true := by
  intro L
  induction L with
  | nil => intro i x y _ hx _; simp at hx
  | cons a L ih =>
    intro i x y h hx hy
    cases L with
    | nil => simp at hy
    | cons b L =>
      rw [adjB, Bool.and_eq_true] at h
      cases i with
      | zero =>
        simp at hx hy
        rw [← hx, ← hy]; exact h.1
      | succ i => exact ih h.2 (by simpa using hx) (by simpa using hy)
theorem cvs_N (p : List Int) (n : Nat) : (cvs p n).length = cvN (maskN p) (maskN (mirL p)) n := by unfold cvs cvN; exact ct_K _ _ _ _ _ _
theorem cvs_K (p : List Int) (n : Nat) : cvs p n = cvK (maskN p) (maskN (mirL p)) n (n + 1) 0 0 := by unfold cvs; exact cv_K _ _ _ _ _ _
structure CovF (p : List Int) (n : Nat) : Prop where
  mir : (cvs (mirL p) n).length = (cvs p n).length
  div : 0 < n → 0 < (cvs p n).length → n % p.length = 0
  sup : ∀ k, k ≤ 11 → (cvs p n).length * (cvs p k).length ≤ (cvs p (n + k)).length
  adj : ∀ (i : Nat) (x y : List Int), (cvs p n)[i]? = some x → (cvs p n)[i + 1]? = some y → lexB x y = true
  one : ∀ x ∈ cvs p n, ∃ a, takO p n x = some a ∧ a.length = n ∧ x.length * p.length = n ∧ (∀ v ∈ a, 0 ≤ v ∧ v ≤ 100) ∧ ∀ i, i < x.length → cntL a i = p.length
theorem pats_covP {p : List Int} (h : p ∈ pats) {n : Nat} (hn : n ≤ 12) : CovF p n := by
  have hp := pats_ok h
  have hc := List.all_eq_true.1 pats_cov p h
  unfold covChk at hc
  rw [Bool.and_eq_true] at hc
  have hc := List.all_eq_true.1 hc.2 n (List.mem_range.2 (by omega))
  unfold covChkN numChk allChk at hc
  simp only [Bool.and_eq_true, Bool.or_eq_true, beq_iff_eq, List.all_eq_true, List.mem_range, decide_eq_true_eq] at hc
  obtain ⟨⟨⟨h1, h2⟩, h3⟩, h4, h5⟩ := hc
  rw [← cvs_K] at h4 h5
  refine ⟨?_, fun hn hc => ?_, fun k hk => ?_, fun i x y hx hy => adjB_get h4 hx hy, fun x hx => ?_⟩
  · rw [cvs_N, cvs_N, mirL_mir hp]; exact h1
  · rw [cvs_N] at hc
    rcases h2 with (h2 | h2) | h2
    · omega
    · omega
    · exact h2
  · rw [cvs_N, cvs_N, cvs_N]; exact h3 k (by omega)
  · have h6 := h5 x hx
    unfold oneChk at h6
    cases e : takO p n x with
    | none => rw [e] at h6; cases h6
    | some a =>
      rw [e] at h6
      simp only [Bool.and_eq_true, beq_iff_eq, List.all_eq_true, List.mem_range, decide_eq_true_eq] at h6
      exact ⟨a, rfl, h6.1.1.1, h6.1.1.2, h6.1.2, h6.2⟩
theorem cov_zero {p : List Int} (h : p ∈ pats) : (cvs p 0).length = 1 := by
  have hc := List.all_eq_true.1 pats_cov p h
  unfold covChk at hc
  rw [Bool.and_eq_true, beq_iff_eq] at hc
  rw [cvs_N]; exact hc.1
theorem mem_lenC {p : List Int} (hp : PatOk p) {n : Nat} (h1 : 1 ≤ n) (h2 : n ≤ 24) : (n : Int) ∈ lenC p ↔ 0 < (cvs p n).length := by
  rw [lenC_t hp]
  unfold lenUp
  rw [List.mem_map]
  constructor
  · rintro ⟨j, hj, he⟩
    rw [List.mem_filter, decide_eq_true_eq] at hj
    have : j + 1 = n := by omega
    rw [this] at hj; exact hj.2
  · intro h
    refine ⟨n - 1, ?_, by omega⟩
    rw [List.mem_filter, decide_eq_true_eq, List.mem_range, show n - 1 + 1 = n by omega]
    exact ⟨by omega, h⟩
theorem leastC_pos {p : List Int} (h : 0 < (lenC p).length) : 1 ≤ leastC p ∧ leastC p ≤ 24 := by
  have h1 := List.mem_of_getElem? (leastC_get h)
  unfold lenC at h1
  split at h1
  · unfold lenUp at h1
    rw [List.mem_map] at h1
    obtain ⟨j, hj, he⟩ := h1
    rw [List.mem_filter, List.mem_range] at hj
    omega
  · simp at h1
theorem leastC_nil {p : List Int} (h : (lenC p).length = 0) : leastC p = 0 := by
  unfold leastC
  rw [List.eq_nil_of_length_eq_zero h]; rfl
theorem cntL_le (a : List Int) (i : Nat) : cntL a i ≤ a.length := List.length_filter_le _ _
theorem cntL_t {a : List Int} {i k : Nat} (h : a[k]? = some (i : Int)) : cntL (a.take (k + 1)) i = cntL (a.take k) i + 1 := by
  unfold cntL; rw [take_succ h, List.filter_append]; simp [List.filter_cons]
theorem cntL_f {a : List Int} {i k : Nat} {v : Int} (h : a[k]? = some v) (hv : v ≠ i) : cntL (a.take (k + 1)) i = cntL (a.take k) i := by
  unfold cntL; rw [take_succ h, List.filter_append]; simp [List.filter_cons, hv]
end Go.Proofs.YtpnbcgnbkanebaaDoor
