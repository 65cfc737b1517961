/- Contracts: l14Count: how many covers there are. -/
import Derived.Test.YtjenhnmfbphbnaaDoorFa
import Derived.Test.YtjenhnmfbphbnaaDoorPureV
namespace Go.Proofs.YtjenhnmfbphbnaaDoor
open Go.RowKit
/-- an element of mask X: it is taken already, or too long, or goes on with c -/
theorem cside (s X d c : Nat) : ∃ n1, n1 = (if s &&& X = 0 ∧ X / 2 ^ d = 0 then c else 0) ∧ ((n1 = 0 ∧ (((s &&& X : Nat) : Int) == 0) = false) ∨ (n1 = 0 ∧ (((s &&& X : Nat) : Int) == 0) = true ∧ (((X / 2 ^ d : Nat) : Int) == 0) = false) ∨
    (n1 = c ∧ (((s &&& X : Nat) : Int) == 0) = true ∧ (((X / 2 ^ d : Nat) : Int) == 0) = true ∧ s &&& X = 0 ∧ X / 2 ^ d = 0)) := by
  refine ⟨_, rfl, ?_⟩
  by_cases h1 : s &&& X = 0
  · by_cases h2 : X / 2 ^ d = 0
    · rw [if_pos ⟨h1, h2⟩]; exact .inr (.inr ⟨rfl, by rw [h1]; rfl, by rw [h2]; rfl, h1, h2⟩)
    · rw [if_neg (fun h => h2 h.2)]
      exact .inr (.inl ⟨rfl, by rw [h1]; rfl, by rw [beq_eq_false_iff_ne]; omega⟩)
  · rw [if_neg (fun h => h1 h.1)]
    exact .inl ⟨rfl, by rw [beq_eq_false_iff_ne]; omega⟩
theorem cside2 (A s X d c : Nat) : ∃ n1, n1 = (if X ≠ A ∧ s &&& X = 0 ∧ X / 2 ^ d = 0 then c else 0) ∧ ((n1 = 0 ∧ ((X : Int) != (A : Int)) = false) ∨ (n1 = 0 ∧ ((X : Int) != (A : Int)) = true ∧ (((s &&& X : Nat) : Int) == 0) = false) ∨ (n1 = 0 ∧ ((X : Int) != (A : Int)) = true ∧ (((s &&& X : Nat) : Int) == 0) = true ∧ (((X / 2 ^ d : Nat) : Int) == 0) = false) ∨
    (n1 = c ∧ ((X : Int) != (A : Int)) = true ∧ (((s &&& X : Nat) : Int) == 0) = true ∧ (((X / 2 ^ d : Nat) : Int) == 0) = true ∧ s &&& X = 0 ∧ X / 2 ^ d = 0)) := by
  by_cases h : X = A
  · refine ⟨_, rfl, .inl ⟨by rw [if_neg (fun h' => h'.1 h)], by rw [h]; simp⟩⟩
  · have hb : ((X : Int) != (A : Int)) = true := by rw [bne_iff_ne]; omega
    obtain ⟨n1, e, h2⟩ := cside s X d c
    refine ⟨n1, ?_, ?_⟩
    · rw [e]; simp [h]
    · rcases h2 with ⟨h3, h4⟩ | ⟨h3, h4, h5⟩ | ⟨h3, h4, h5, h6, h7⟩
      · exact .inr (.inl ⟨h3, hb, h4⟩)
      · exact .inr (.inr (.inl ⟨h3, hb, h4, h5⟩))
      · exact .inr (.inr (.inr ⟨h3, hb, h4, h5, h6, h7⟩))
set_option maxRecDepth 100000 in
set_option maxHeartbeats 4000000 in
theorem l14Count_c (A B n : Nat) (hA : A % 2 = 1 ∧ A < 8192) (hB : B % 2 = 1 ∧ B < 8192) (hn : n ≤ 24) : ∀ (f t s : Nat) (w : World), t ≤ n → s < 2 ^ (n - t) → n + 1 ≤ f + (t + (D s).2) → f ≤ 25 →
    Calls Tryd.prog 39 #[.int .i64 A, .int .i64 B, .int .i64 n, .int .i64 t, .int .i64 s] w fun e w' => e = .returned (.int .i64 ((cv A B n f (t + (D s).2) (D s).1).length : Nat)) ∧ w = w' := by
  intro f
  induction f with
  | zero =>
    intro t s w ht hs hf
    have := D_num_le hs
    omega
  | succ f ih =>
    intro t s w ht hs hf hf25
    have hs24 : s < 16777216 := Nat.lt_of_lt_of_le hs (Nat.pow_le_pow_right (by decide) (show n - t ≤ 24 by omega))
    have Hf := Lib.hid hf
    have Ih := Lib.hid ih
    obtain ⟨hA1, hA2⟩ := hA
    obtain ⟨hB1, hB2⟩ := hB
    have Hs0 := Lib.hid hs
    clear hf ih hs
    go_enter Tryd.func39, Tryd.ntmps39
    go_wp2
    go_loop [3, 4] (fun tt ss => ∃ t' s' : Nat, t' ≤ n ∧ s' < 16777216 ∧ tt = .int .i64 t' ∧ ss = .int .i64 s' ∧ Hid (s' < 2 ^ (n - t') ∧ t' + (D s').2 = t + (D s).2 ∧ (D s').1 = (D s).1)) (fun tt _ => n - (intOf tt).toNat)
    case atStart => exact ⟨t, s, ht, hs24, rfl, rfl, Hs0.out, rfl, rfl⟩
    case round =>
      obtain ⟨t', s', ht', hs', rfl, rfl, hi⟩ := hrel
      by_cases hodd : t' < n ∧ s' % 2 = 1
      · have hbt := odd_t (a := s') (by omega) hodd.2
        have hlt : (t' : Int) < (n : Int) := by omega
        have Hn : Hid (s' / 2 < 2 ^ (n - (t' + 1)) ∧ t' + 1 + (D (s' / 2)).2 = t + (D s).2 ∧ (D (s' / 2)).1 = (D s).1) := by
          obtain ⟨h1, h2, h3⟩ := hi.out
          rw [D_odd hodd.2] at h2 h3
          refine ⟨?_, by simp only at h2; omega, h3⟩
          rw [show n - t' = n - (t' + 1) + 1 by omega, Nat.pow_succ] at h1
          omega
        obtain ⟨ht2, hodd2⟩ := hodd
        clear hodd2
        go_wp2
        go_round
        case rel => exact ⟨t' + 1, s' / 2, by omega, by omega, by go_num, by go_num, Hn⟩
        case measure => simp [intOf]; omega
      · have hev : s' % 2 = 0 := by
          by_cases h : t' < n
          · have : ¬ s' % 2 = 1 := fun h' => hodd ⟨h, h'⟩
            omega
          · have h1 := hi.out.1
            rw [show n - t' = 0 by omega] at h1
            omega
        have hD : D s' = (s', 0) := D_even (by omega)
        have He : Hid (t + (D s).2 = t' ∧ (D s).1 = s') := by
          obtain ⟨h1, h2, h3⟩ := hi.out
          rw [hD] at h2 h3
          exact ⟨by simp only at h2; omega, h3.symm⟩
        have Hsl : Hid (s' < 2 ^ (n - t')) := hi.out.1
        have hbt := odd_f (a := s') (by omega) (by omega)
        have hf2 : n + 1 ≤ f + 1 + t' := by have := Hf.out; rw [He.out.1] at this; exact this
        clear hodd hi hD
        by_cases htn : t' = n
        · have Hc : Hid ((cv A B n (f + 1) (t + (D s).2) (D s).1).length = 1) := by unfold Hid; rw [He.out.1, htn, cv_end]; rfl
          subst htn
          go_wp2
          go_ret
          exact ⟨by rw [Hc.out]; rfl, rfl⟩
        · have htn2 : t' < n := by omega
          have hlt : (t' : Int) < (n : Int) := by omega
          have hne : ((t' : Int) == (n : Int)) = false := by rw [beq_eq_false_iff_ne]; omega
          obtain ⟨d, hd⟩ : ∃ d, d = n - t' := ⟨_, rfl⟩
          have hsub : (n : Int) - (t' : Int) = (d : Int) := by omega
          have hd24 : d ≤ 24 := by omega
          have a1 := i64_and s' A (by omega) (by omega)
          have a2 := i64_and s' B (by omega) (by omega)
          have q1 := shr_cast A d
          have q2 := shr_cast B d
          obtain ⟨L, hL⟩ : ∃ L, L = (cv A B n (f + 1) (t + (D s).2) (D s).1).length := ⟨_, rfl⟩
          have Hlen := Lib.hid hL
          rw [He.out.1, He.out.2, cv_count A B n f t' s' htn, ← hd] at hL
          have HC0 : ∀ X, X % 2 = 1 → X < 8192 → s' &&& X = 0 → X / 2 ^ d = 0 → ∀ w : World, Calls Tryd.prog 39 #[.int .i64 A, .int .i64 B, .int .i64 n, .int .i64 t', .int .i64 ((s' ||| X : Nat) : Int)] w fun e w' => e = .returned (.int .i64 (cn A B n f t' s' X : Nat)) ∧ w = w' := fun X hX1 hX2 h0 h1 w' => by
            rw [hd] at h1
            obtain ⟨e1, e2, e3, e4, e5⟩ := cv_step (A := X) (n := n) (t := t') (s := s') hX1 hev htn2 hn Hsl.out h0 h1
            rw [or_add (by omega) (by omega) h0]
            exact Ih.out t' (s' + X) w' ht' e5 (by omega) (by omega)
          have HC1 := HC0 A hA1 hA2
          have HC2 := HC0 B hB1 hB2
          have o1 := i64_or s' A (by omega) (by omega)
          have o2 := i64_or s' B (by omega) (by omega)
          obtain ⟨zA, hzA⟩ : ∃ zA, zA = s' ||| A := ⟨_, rfl⟩
          obtain ⟨zB, hzB⟩ : ∃ zB, zB = s' ||| B := ⟨_, rfl⟩
          rw [← hzA] at HC1 o1
          rw [← hzB] at HC2 o2
          clear hzA hzB HC0
          have HL : ∀ X, cn A B n f t' s' X ≤ 33554432 := fun X => Nat.le_trans (cv_len A B n f _ _) (Nat.pow_le_pow_right (n := 2) (by decide) (show f ≤ 25 by omega))
          have l1 := HL A
          have l2 := HL B
          obtain ⟨n1, hn1, S1⟩ := cside s' A d (cn A B n f t' s' A)
          obtain ⟨n2, hn2, S2⟩ := cside2 A s' B d (cn A B n f t' s' B)
          rw [← hn1, ← hn2] at hL
          clear hn1 hn2 HL htn Ih He Hsl Hf
          obtain ⟨gA, hgA⟩ : ∃ gA, gA = s' &&& A := ⟨_, rfl⟩
          obtain ⟨gB, hgB⟩ : ∃ gB, gB = s' &&& B := ⟨_, rfl⟩
          obtain ⟨yA, hyA⟩ : ∃ yA, yA = A / 2 ^ d := ⟨_, rfl⟩
          obtain ⟨yB, hyB⟩ : ∃ yB, yB = B / 2 ^ d := ⟨_, rfl⟩
          obtain ⟨cA, hcA⟩ : ∃ cA, cA = cn A B n f t' s' A := ⟨_, rfl⟩
          obtain ⟨cB, hcB⟩ : ∃ cB, cB = cn A B n f t' s' B := ⟨_, rfl⟩
          rw [← hgA, ← hyA, ← hcA] at HC1 S1
          rw [← hgB, ← hyB, ← hcB] at HC2 S2
          rw [← hgA] at a1
          rw [← hgB] at a2
          rw [← hyA] at q1
          rw [← hyB] at q2
          rw [← hcA] at l1
          rw [← hcB] at l2
          clear hgA hgB hyA hyB hcA hcB hd
          have HC1' := Lib.hid HC1
          have HC2' := Lib.hid HC2
          clear HC1 HC2
          rcases S1 with ⟨hn1, b1⟩ | ⟨hn1, b1, b1b⟩ | ⟨hn1, b1, b1b, k1, k2⟩ <;> rcases S2 with ⟨hn2, b2⟩ | ⟨hn2, b2, b2b⟩ | ⟨hn2, b2, b2b, b2c⟩ | ⟨hn2, b2, b2b, b2c, k3, k4⟩
          all_goals
            have Hn1 := Lib.hid hn1
            have Hn2 := Lib.hid hn2
            have HLL := Lib.hid hL
            have hb1 : n1 ≤ 33554432 := by omega
            have hb2 : n2 ≤ 33554432 := by omega
            clear hn1 hn2 hL
            have tokA : True := trivial
            go_wp2_with (first | (go_at_call 39; clear tokA; refine (HC1'.out k1 k2 _).mono ?_; rintro e w2 ⟨rfl, rfl⟩; rw [← Hn1.out]) | (go_at_call 39; refine (HC2'.out k3 k4 _).mono ?_; rintro e w2 ⟨rfl, rfl⟩; rw [← Hn2.out]))
            go_ret
            have h1 := Hn1.out
            have h2 := Hn2.out
            have h3 := HLL.out
            exact ⟨by
              rw [← Hlen.out]
              first
                | (rw [show (L : Int) = (n1 : Int) + (n2 : Int) by omega]; rfl)
                | (rw [show (L : Int) = (n1 : Int) by omega]; rfl)
                | (rw [show (L : Int) = (n2 : Int) by omega]; rfl)
                | (rw [show (L : Int) = 0 by omega]; rfl), rfl⟩
end Go.Proofs.YtjenhnmfbphbnaaDoor
