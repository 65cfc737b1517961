/- Plain facts: what FnModulo asks of the patterns that MakePattern draws. -/
import Derived.Test.YtgjpepgjlocfkaaPats
import Derived.Test.YtgjpepgjlocfkaaPureG
import Derived.Test.YtgjpepgjlocfkaaFltw
import Derived.Test.YtgjpepgjlocfkaaFser
import Derived.Test.YtgjpepgjlocfkaaFhit
namespace Go.Proofs.Ytgjpepgjlocfkaa
def chkHit (l : List Int) (d : Nat × Nat) (k : Nat) : Bool := d.2 != 0 || (let es := listI d.1; let h := hitI l es; (h.length == k) && h.all fun x => x % 2 == 1)
def chk1 (l : List Int) : Bool := (List.range 40).all fun k => chkHit l (divTwo (2 ^ (k + 1) - 1) (maskN l)) (k + 1)
theorem pats_1 : (pats.all chk1) = true := by decide +kernel
/-- the sum that FnModulo takes at place i -/
def convI (l S : List Int) (i : Nat) : Int := (l.map fun (e : Int) => if e ≤ (i : Int) then S.getD (i - e.toNat) 0 else 0).foldl (· + ·) 0
def chk2 (l : List Int) : Bool := (fun S : List Int => (S.length == 60) && (S.getD 0 0 == 1) && (List.range 60).all fun i => decide ((convI l S i) % 2 = 1) == (i == 0)) (serI l 60)
theorem pats_2 : (pats.all chk2) = true := by decide +kernel
def perB (l : List Int) (o : Nat) : Bool := (fun S : List Int => (List.range (60 - o)).all fun i => S.getD (i + o) 0 == S.getD i 0) (serI l 60)
def chk3 (l : List Int) : Bool := ((maskN l == 1) && (lastI l == 0)) || ((maskN l != 1) && (fun o => o == 0 || (perB l o && (decide (40 < o) || restI ((2 ^ o ^^^ 1 : Nat) : Int) (maskN l) == 0))) (ordGo (maskN l) 60 1 1))
theorem pats_3 : (pats.all chk3) = true := by decide +kernel
theorem mod_hit {l : List Int} (h : l ∈ pats) {k : Nat} (h1 : 1 ≤ k) (h2 : k ≤ 40) (hok : etwOk l k = true) : (hitI l (etwL l k)).length = k ∧ ∀ x ∈ hitI l (etwL l k), x % 2 = 1 := by
  have hc := List.all_eq_true.1 (List.all_eq_true.1 pats_1 l h) (k - 1) (List.mem_range.2 (by omega))
  rw [show k - 1 + 1 = k by omega] at hc
  have e1 : etwL l k = listI (divTwo (2 ^ k - 1) (maskN l)).1 := by unfold etwL; rw [if_pos hok]; unfold etwD; rw [Int.toNat_natCast]
  have e2 : (divTwo (2 ^ k - 1) (maskN l)).2 = 0 := by
    unfold etwOk etwD at hok
    rw [Int.toNat_natCast] at hok
    simp only [Bool.and_eq_true, beq_iff_eq] at hok
    exact hok.2
  unfold chkHit at hc
  rw [e2] at hc
  simp only [bne_self_eq_false, Bool.false_or, Bool.and_eq_true, beq_iff_eq, List.all_eq_true] at hc
  rw [e1]
  exact hc
theorem mod_rest {l : List Int} (h : PatOk l) {k : Nat} (h1 : 1 ≤ k) (h2 : k ≤ 40) : etwOk l k = (restI ((2 ^ k - 1 : Nat) : Int) (maskI l) == 0) := by
  have hm := maskN_odd h
  have hl := maskN_lt h
  have hp : 2 ^ k ≤ 2 ^ 40 := Nat.pow_le_pow_right (by decide) h2
  have hp1 : 0 < 2 ^ k := Nat.two_pow_pos _
  rw [maskI_pat h]
  unfold restI etwOk etwD
  rw [if_pos (by omega), patB_t h, Int.toNat_natCast, Int.toNat_natCast, Int.toNat_natCast, decide_eq_true (by omega)]
  rw [Bool.eq_iff_iff]
  simp
theorem ltwGo_le {l : List Int} {k : Nat} (hok : etwOk l k = true) : ∀ f n, n ≤ k → k < n + f → n ≤ ltwGo l f n ∧ ltwGo l f n ≤ k := by
  intro f
  induction f with
  | zero => intro n h1 h2; omega
  | succ f ih =>
    intro n h1 h2
    rw [ltwGo]
    split
    · exact ⟨Nat.le_refl _, h1⟩
    · rename_i hn
      have hne : n ≠ k := fun e => hn (by rw [e]; exact hok)
      have := ih (n + 1) (by omega) (by omega)
      omega
theorem mod_ltw {l : List Int} {k : Nat} (h1 : 1 ≤ k) (h2 : k ≤ 40) (hok : etwOk l k = true) : 1 ≤ ltwI l ∧ ltwI l ≤ k := by
  have := ltwGo_le hok 40 1 h1 (by omega)
  unfold ltwI
  omega
theorem mod_ser {l : List Int} (h : l ∈ pats) : (serI l 60).length = 60 ∧ (serI l 60).getD 0 0 = 1 ∧ ∀ i : Nat, i < 60 → ((convI l (serI l 60) i) % 2 = 1 ↔ i = 0) := by
  have hc := List.all_eq_true.1 pats_2 l h
  unfold chk2 at hc
  simp only [Bool.and_eq_true, beq_iff_eq, List.all_eq_true, List.mem_range] at hc
  refine ⟨hc.1.1, hc.1.2, fun i hi => ?_⟩
  have := hc.2 i hi
  rw [← decide_eq_true_iff (p := convI l (serI l 60) i % 2 = 1), this]
  simp
theorem ordGo_ge (b : Nat) : ∀ f n p, ordGo b f n p = 0 ∨ n ≤ ordGo b f n p := by
  intro f
  induction f with
  | zero => intro n p; exact .inl rfl
  | succ f ih =>
    intro n p
    rw [ordGo]
    split
    · exact .inr (Nat.le_refl _)
    · rcases ih (n + 1) (lf b p) with h | h
      · exact .inl h
      · exact .inr (by omega)
theorem ordGo_more (b g : Nat) : ∀ f n p, 1 ≤ n → (ordGo b f n p ≠ 0 → ordGo b (f + g) n p = ordGo b f n p) ∧ (ordGo b f n p = 0 → ordGo b (f + g) n p = 0 ∨ n + f ≤ ordGo b (f + g) n p) := by
  intro f
  induction f with
  | zero =>
    intro n p hn
    refine ⟨fun h => absurd rfl h, fun _ => ?_⟩
    rw [Nat.zero_add, Nat.add_zero]
    exact ordGo_ge b g n p
  | succ f ih =>
    intro n p hn
    rw [show f + 1 + g = f + g + 1 by omega, ordGo, ordGo]
    split
    · exact ⟨fun _ => rfl, fun h => by omega⟩
    · have := ih (n + 1) (lf b p) (by omega)
      exact ⟨this.1, fun h => by rcases this.2 h with h | h <;> omega⟩
theorem mod_ord {l : List Int} (h : l ∈ pats) : (∀ (i o : Nat), ordI l = o → 0 < o → i + o < 60 → 0 < lastI l → (serI l 60).getD (i + o) 0 = (serI l 60).getD i 0) ∧ (∀ o : Nat, ordI l = o → 0 < o → o ≤ 40 → restI ((2 ^ o ^^^ 1 : Nat) : Int) (maskI l) = 0) := by
  have hc := List.all_eq_true.1 pats_3 l h
  have hp := pats_ok h
  rw [maskI_pat hp]
  unfold chk3 at hc
  simp only [Bool.or_eq_true, Bool.and_eq_true, beq_iff_eq, bne_iff_ne, ne_eq] at hc
  rcases hc with ⟨h1, h2⟩ | ⟨h1, h2⟩
  · refine ⟨fun i o _ _ _ hl => by omega, fun o ho _ _ => ?_⟩
    have e : ordI l = 1 := by unfold ordI; rw [if_pos (patB_t hp), if_pos h1]
    have e2 : o = 1 := by omega
    subst e2
    rw [h1]
    decide +kernel
  · have e : ordI l = (ordGo (maskN l) 4095 1 1 : Nat) := by unfold ordI; rw [if_pos (patB_t hp), if_neg h1]
    have hm := ordGo_more (maskN l) 4035 60 1 1 (Nat.le_refl _)
    rw [show (60 : Nat) + 4035 = 4095 from rfl] at hm
    rw [e]
    rcases h2 with h2 | ⟨h2, h3⟩
    · have := hm.2 h2
      refine ⟨fun i o ho _ _ _ => by omega, fun o ho _ _ => by omega⟩
    · by_cases h0 : ordGo (maskN l) 60 1 1 = 0
      · have := hm.2 h0
        refine ⟨fun i o ho _ _ _ => by omega, fun o ho _ _ => by omega⟩
      · rw [hm.1 h0]
        refine ⟨fun i o ho _ hi _ => ?_, fun o ho _ h4 => ?_⟩
        · have e2 : ordGo (maskN l) 60 1 1 = o := by omega
          rw [e2] at h2
          unfold perB at h2
          simp only [List.all_eq_true, List.mem_range, beq_iff_eq] at h2
          exact h2 i (by omega)
        · have e2 : ordGo (maskN l) 60 1 1 = o := by omega
          rw [e2] at h3
          rcases h3 with h3 | h3
          · simp at h3; omega
          · exact h3
end Go.Proofs.Ytgjpepgjlocfkaa
