/- Plain facts: what FnLayers asks of two layers of at most eight beats each. -/
import Derived.Test.YtnbfcdanpplllaaFthr
import Derived.Test.YtnbfcdanpplllaaFpst
import Derived.Test.YtnbfcdanpplllaaFlay
import Derived.Test.YtnbfcdanpplllaaFmrr
import Derived.Test.YtnbfcdanpplllaaFpt
namespace Go.Proofs.Ytnbfcdanpplllaa
def lyP (a b n : Nat) : List Int := rhL n (layN a n a ++ layN b n b)
def lyA (a b n g : Nat) (pl L : List Int) : Bool :=
  decide (RhyOk n pl) && (L.length + g == a + b) && (pl.length == L.length) && ((List.range L.length).all fun i => L.getD i 0 == L.getD (L.length - 1 - i) 0) && decide (lyrOk a n) && decide (lyrOk b n) && decide (tlOk a b a) && (tlN a b a == n) && (tlM a b a == pl) && decide (0 < (axUp n pl n).length)
def lyS (a b n g s : Nat) : Bool := match meetN a b n s with
  | [] => false
  | x :: t => (t.length + 1 == g) && decide (0 ≤ x) && decide (x < ((n / g : Nat) : Int)) && (x.toNat % (n / a) == 0) && ((x - (s : Int)) % ((n / b : Nat) : Int) == 0)
def lyC (a b : Nat) : Bool :=
  if cpN a b ≤ 24 then lyA a b (cpN a b) (Nat.gcd a b) (lyP a b (cpN a b)) (stepsL (cpN a b) (lyP a b (cpN a b))) && ((List.range 50).all fun s => lyS a b (cpN a b) (Nat.gcd a b) s) && ((meetN a b (cpN a b) 0).headD (-1) == 0) else true
theorem ly_all : ((List.range 8).all fun i => (List.range 8).all fun j => lyC (i + 1) (j + 1)) = true := by decide +kernel
structure LayP (a b n g : Nat) (pl L : List Int) : Prop where
  cp : cpI a b = (n : Int)
  n1 : 1 ≤ n ∧ n ≤ 24
  pol : polL a b = pl
  polb : polB a b = true
  ok : RhyOk n pl
  st : stpI n pl = L
  len : L.length + g = a + b
  plen : pl.length = L.length
  sym : ∀ i, i < L.length → L.getD i 0 = L.getD (L.length - 1 - i) 0
  lay : lyrB a n = true ∧ lyrN a n = (n : Int) ∧ lyrL a n = layN a n a
  lby : lyrB b n = true ∧ lyrN b n = (n : Int) ∧ lyrL b n = layN b n b
  joi : joinB n n (layN a n a) (layN b n b) = true ∧ joinN n n (layN a n a) (layN b n b) = (n : Int) ∧ joinL n n (layN a n a) (layN b n b) = pl
  thr : tlB a b a = true ∧ tlI a b a = (n : Int) ∧ tlL a b a = pl
  axs : 0 < (axUp n pl n).length
  txt : ptS a b = strOfNums (ptL a b n n)
  div : a / g * b = n
  gpos : 1 ≤ g
  met : ∀ s : Nat, s < 50 → ∃ f : Nat, (meetL a b s).length = g ∧ (meetL a b s)[0]? = some (f : Int) ∧ firI a b s = (f : Int) ∧ f < n / g ∧ f % (n / a) = 0 ∧ ((f : Int) - (s : Int)) % ((n / b : Nat) : Int) = 0
  fir : firI a b 0 = 0
theorem lay_facts {a b : Nat} (ha : 1 ≤ a ∧ a ≤ 8) (hb : 1 ≤ b ∧ b ≤ 8) (hc : cpN a b ≤ 24) : ∃ pl L, LayP a b (cpN a b) (Nat.gcd a b) pl L := by
  have h := ly_all
  rw [List.all_eq_true] at h
  have h := h (a - 1) (by rw [List.mem_range]; omega)
  rw [List.all_eq_true] at h
  have h := h (b - 1) (by rw [List.mem_range]; omega)
  rw [show a - 1 + 1 = a by omega, show b - 1 + 1 = b by omega] at h
  unfold lyC at h
  rw [if_pos hc, Bool.and_eq_true, Bool.and_eq_true] at h
  obtain ⟨⟨h1, h2⟩, h3⟩ := h
  have hcp : cpI a b = ((cpN a b : Nat) : Int) := by
    unfold cpI
    rw [if_pos ⟨by omega, by omega, by omega, by omega, by simpa using hc⟩]
    simp
  have hdiv : a / Nat.gcd a b * b = cpN a b := rfl
  have hg : 1 ≤ Nat.gcd a b := Nat.gcd_pos_of_pos_left _ (by omega)
  have hn1 : 1 ≤ cpN a b := (cpN_mod ha.1 hb.1).2.2
  obtain ⟨n, hn⟩ : ∃ n, n = cpN a b := ⟨_, rfl⟩
  obtain ⟨g, hgg⟩ : ∃ g, g = Nat.gcd a b := ⟨_, rfl⟩
  rw [← hn] at h1 h2 h3 hcp hdiv hc hn1 ⊢
  rw [← hgg] at h1 h2 hdiv hg ⊢
  clear hn hgg
  unfold lyA at h1
  simp only [Bool.and_eq_true, decide_eq_true_eq, beq_iff_eq, List.all_eq_true, List.mem_range] at h1
  obtain ⟨⟨⟨⟨⟨⟨⟨⟨⟨c1, c2⟩, c3⟩, c4⟩, c5⟩, c6⟩, c7⟩, c8⟩, c9⟩, c10⟩ := h1
  have hla := lyr_t c5
  have hlb := lyr_t c6
  have hoka : RhyOk n (layN a n a) := by
    obtain ⟨x, y, hx, hy, z1, z2, z3, z4, z5⟩ := lyr_pos c5
    obtain rfl : a = x := by omega
    obtain rfl : n = y := by omega
    exact lay_ok z1 z3 z4 z5
  have hokb : RhyOk n (layN b n b) := by
    obtain ⟨x, y, hx, hy, z1, z2, z3, z4, z5⟩ := lyr_pos c6
    obtain rfl : b = x := by omega
    obtain rfl : n = y := by omega
    exact lay_ok z1 z3 z4 z5
  refine ⟨lyP a b n, stepsL n (lyP a b n), ⟨hcp, ⟨hn1, hc⟩, (pol_t hcp hn1).2, (pol_t hcp hn1).1, c1, stpI_t c1, c2, c3, c4, hla, hlb, join_t ⟨hoka, hokb, rfl⟩, ?_, c10, pt_t hcp hn1, hdiv, hg, ?_, ?_⟩⟩
  · have := tl_t c7
    rw [c8, c9] at this
    exact this
  · intro s hs
    rw [List.all_eq_true] at h2
    have h4 := h2 s (by rw [List.mem_range]; exact hs)
    have hm : meetL a b s = meetN a b n s := meet_t hcp ⟨by rw [hcp]; omega, by omega, by omega⟩
    unfold lyS at h4
    unfold firI
    rw [hm]
    cases e : meetN a b n s with
    | nil => rw [e] at h4; cases h4
    | cons x t =>
      rw [e] at h4
      simp only [Bool.and_eq_true, decide_eq_true_eq, beq_iff_eq] at h4
      obtain ⟨⟨⟨⟨d1, d2⟩, d3⟩, d4⟩, d5⟩ := h4
      obtain ⟨f, rfl⟩ := Int.eq_ofNat_of_zero_le d2
      refine ⟨f, d1, rfl, rfl, ?_, ?_, d5⟩
      · generalize n / g = z at *; omega
      · simpa using d4
  · have hm : meetL a b 0 = meetN a b n 0 := meet_t (s := 0) hcp ⟨by rw [hcp]; omega, by omega, by omega⟩
    unfold firI
    rw [hm]
    exact beq_iff_eq.1 h3
theorem lay_none {a b : Nat} (hc : ¬ cpN a b ≤ 24) : cpI a b = 0 := by
  unfold cpI
  rw [if_neg]
  intro h
  exact hc (by simpa using h.2.2.2.2)
end Go.Proofs.Ytnbfcdanpplllaa
