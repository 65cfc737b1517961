/- Plain facts: twins of the machines that the kernel can run, and what FnLine asks of the patterns that MakePattern draws. -/
import Derived.Test.YtpnbcgnbkanebaaDoorPats
import Derived.Test.YtpnbcgnbkanebaaDoorPureV
namespace Go.Proofs.YtpnbcgnbkanebaaDoor
def DF : Nat → Nat → Nat → Nat × Nat
  | 0, t, a => (t, a)
  | f + 1, t, a => if t % 2 = 1 then DF f (t / 2) (a + 1) else (t, a)
theorem D_F : ∀ (f t a : Nat), t < 2 ^ f → DF f t a = ((D t).1, (D t).2 + a) := by
  intro f
  induction f with
  | zero =>
    intro t a h
    have : t = 0 := by omega
    subst this
    rw [D]; simp [DF]
  | succ f ih =>
    intro t a h
    rw [DF]
    by_cases h1 : t % 2 = 1
    · rw [if_pos h1, ih (t / 2) (a + 1) (by omega), D_odd h1]
      simp; omega
    · rw [if_neg h1, D]
      simp [h1]
def DK (t : Nat) : Nat × Nat := DF (t.log2 + 1) t 0
theorem D_K : D = DK := by
  funext t
  unfold DK
  rw [D_F _ _ _ Nat.lt_log2_self]; rfl
def runK (m : Nat) : Nat → Nat → Nat → List Nat → Option (Bool × Nat × List Nat)
  | 0, _, _, _ => none
  | f + 1, s, t, es =>
    if s &&& m = 0 then
      match DK (s + m) with
      | (0, d) => some (true, t + d, es ++ [t])
      | (r, d) => runK m f r (t + d) (es ++ [t])
    else some (false, t, [])
theorem run_K (m : Nat) : ∀ f s t es, run m f s t es = runK m f s t es := by
  intro f
  induction f with
  | zero => intro s t es; rfl
  | succ f ih =>
    intro s t es
    rw [run, runK, D_K]
    by_cases h : s &&& m = 0
    · rw [if_pos h, if_pos h]
      rcases e : DK (s + m) with ⟨r, d⟩
      cases r with
      | zero => simp
      | succ r => simp [ih]
    · rw [if_neg h, if_neg h]
def cvK (A B n : Nat) : Nat → Nat → Nat → List (List Int)
  | 0, _, _ => []
  | f + 1, t, s => if t = n then [[]] else
      (if s &&& A = 0 ∧ A / 2 ^ (n - t) = 0 then (match DK (s + A) with | (r, d) => (cvK A B n f (t + d) r).map fun l => ((2 * t : Nat) : Int) :: l) else []) ++
      (if B ≠ A ∧ s &&& B = 0 ∧ B / 2 ^ (n - t) = 0 then (match DK (s + B) with | (r, d) => (cvK A B n f (t + d) r).map fun l => ((2 * t + 1 : Nat) : Int) :: l) else [])
theorem cv_K (A B n : Nat) : ∀ f t s, cv A B n f t s = cvK A B n f t s := by
  intro f
  induction f with
  | zero => intro t s; rfl
  | succ f ih => intro t s; rw [cv, cvK, D_K]; simp only [ih]
/-- how many covers -/
def ctK (A B n : Nat) : Nat → Nat → Nat → Nat
  | 0, _, _ => 0
  | f + 1, t, s => if t = n then 1 else
      (if s &&& A = 0 ∧ A / 2 ^ (n - t) = 0 then (match DK (s + A) with | (r, d) => ctK A B n f (t + d) r) else 0) +
      (if B ≠ A ∧ s &&& B = 0 ∧ B / 2 ^ (n - t) = 0 then (match DK (s + B) with | (r, d) => ctK A B n f (t + d) r) else 0)
theorem ct_K (A B n : Nat) : ∀ f t s, (cv A B n f t s).length = ctK A B n f t s := by
  intro f
  induction f with
  | zero => intro t s; rfl
  | succ f ih =>
    intro t s
    rw [ctK]
    by_cases h : t = n
    · rw [if_pos h, cv, if_pos h]; rfl
    · rw [if_neg h, cv_count A B n f t s h, ← D_K]
      unfold cn
      rw [ih, ih]
end Go.Proofs.YtpnbcgnbkanebaaDoor
