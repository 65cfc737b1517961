/- Contract: l14All: the covers that continue a list, behind those of the caller. -/
import Derived.Test.YtjenhnmfbphbnaaDoorFvl
import Derived.Deep.RegionLaw
namespace Go.Proofs.YtjenhnmfbphbnaaDoor
open Go.RowKit
set_option maxRecDepth 100000 in
set_option maxHeartbeats 4000000 in
theorem l14All_c (A B n : Nat) (hA : A % 2 = 1 ∧ A < 8192) (hB : B % 2 = 1 ∧ B < 8192) (hn : n ≤ 24) : ∀ (f t s : Nat) (l : List Int) (v : Value) (w : World) (Q : Nat) (out : Value) (us : List Value) (os : List (List Int)), t ≤ n → s < 2 ^ (n - t) → n + 1 ≤ f + (t + (D s).2) → f ≤ 25 →
    l.length ≤ t + (D s).2 → Own w Q v l → Lss w Q out us os → Apart v out → (∀ u ∈ us, Apart u v) → os.length + 2 ^ f ≤ 67108864 → Q ≤ w.heap.size →
    Calls Tryd.prog 47 #[.int .i64 A, .int .i64 B, .int .i64 n, .int .i64 t, .int .i64 s, v, out] w (MV Q out (os ++ (cv A B n f (t + (D s).2) (D s).1).map fun x => l ++ x) w) := by
  intro f
  induction f with
  | zero =>
    intro t s l v w Q out us os ht hs hf
    have := D_num_le hs
    omega
  | succ f ih =>
    intro t s l v w Q out us os ht hs hf hf25 hll hv ho hap hau hlen hQ
    have hs24 : s < 16777216 := Nat.lt_of_lt_of_le hs (Nat.pow_le_pow_right (by decide) (show n - t ≤ 24 by omega))
    obtain ⟨Av, cv', hve, _, _⟩ := hv.slice
    obtain ⟨q, hq⟩ : ∃ q, q = l.length := ⟨_, rfl⟩
    rw [← hq] at hve hll
    subst hve
    obtain ⟨Ao, co, hoe, _, _⟩ := ho.form
    obtain ⟨m, hm⟩ : ∃ m, m = us.length := ⟨_, rfl⟩
    rw [← hm] at hoe
    subst hoe
    have Hq := Lib.hid hq
    have Hf := Lib.hid hf
    have Ih := Lib.hid ih
    obtain ⟨hA1, hA2⟩ := hA
    obtain ⟨hB1, hB2⟩ := hB
    have Hs0 := Lib.hid hs
    have Hv := Lib.hid hv
    have Ho := Lib.hid ho
    have Hap := Lib.hid hap
    have Hau := Lib.hid hau
    have hlen9 : os.length ≤ 999999999 := by have h2 := Nat.two_pow_pos (f + 1); omega
    have Hlen0 := Lib.hid hlen
    have Hll := Lib.hid hll
    clear hf ih hs hv ho hap hau hm hq hlen hll
    go_enter Tryd.func47, Tryd.ntmps47
    go_wp2
    go_loop [3, 4] (fun tt ss => ∃ t' s' : Nat, t ≤ t' ∧ t' ≤ n ∧ s' < 16777216 ∧ tt = .int .i64 t' ∧ ss = .int .i64 s' ∧ Hid (s' < 2 ^ (n - t') ∧ t' + (D s').2 = t + (D s).2 ∧ (D s').1 = (D s).1)) (fun tt _ => n - (intOf tt).toNat)
    case atStart => exact ⟨t, s, Nat.le_refl _, ht, hs24, rfl, rfl, Hs0.out, rfl, rfl⟩
    case round =>
      obtain ⟨t', s', htt, ht', hs', rfl, rfl, hi⟩ := hrel
      by_cases hodd : t' < n ∧ s' % 2 = 1
      · have hbt := odd_t (a := s') (by omega) hodd.2
        have hlt : (t' : Int) < (n : Int) := by omega
        have Hn : Hid (s' / 2 < 2 ^ (n - (t' + 1)) ∧ t' + 1 + (D (s' / 2)).2 = t + (D s).2 ∧ (D (s' / 2)).1 = (D s).1) := by
          obtain ⟨h1, h2, h3⟩ := hi.out
          rw [D_odd hodd.2] at h2 h3
          refine ⟨?_, by simp only at h2; omega, h3⟩
          rw [show n - t' = n - (t' + 1) + 1 by omega, Nat.pow_succ] at h1
          omega
        obtain ⟨ht2, hodd2⟩ := hodd
        clear hodd2
        go_wp2
        go_round
        case rel => exact ⟨t' + 1, s' / 2, by omega, by omega, by omega, by go_num, by go_num, Hn⟩
        case measure => simp [intOf]; omega
      · have hev : s' % 2 = 0 := by
          by_cases h : t' < n
          · have : ¬ s' % 2 = 1 := fun h' => hodd ⟨h, h'⟩
            omega
          · have h1 := hi.out.1
            rw [show n - t' = 0 by omega] at h1
            omega
        have hD : D s' = (s', 0) := D_even (by omega)
        have He : Hid (t + (D s).2 = t' ∧ (D s).1 = s') := by
          obtain ⟨h1, h2, h3⟩ := hi.out
          rw [hD] at h2 h3
          exact ⟨by simp only at h2; omega, h3.symm⟩
        have Hsl : Hid (s' < 2 ^ (n - t')) := hi.out.1
        have hbt := odd_f (a := s') (by omega) (by omega)
        have hf2 : n + 1 ≤ f + 1 + t' := by have := Hf.out; rw [He.out.1] at this; exact this
        clear hodd hi hD
        by_cases htn : t' = n
        · have Hc : Hid ((cv A B n (f + 1) (t + (D s).2) (D s).1).map (fun x => l ++ x) = [l]) := by unfold Hid; rw [He.out.1, htn, cv_end]; simp
          subst htn
          go_wp2_with (first | (at_builtin; refine wp_appendGV rfl rfl (.tmp 30) (.tmp 32) rfl rfl rfl Ho.out Hv.out Hap.out Hau.out hlen9 hQ ?_; rintro v2 w2 ⟨v3, us3, e3, hL3, hg3, hat3⟩; obtain ⟨A3, c3, hf3, _, _⟩ := hL3.form; subst hf3; cases e3))
          go_ret
          exact ⟨_, us3, rfl, by rw [Hc.out]; exact hL3, hg3, hat3⟩
        · have htn2 : t' < n := by omega
          have hlt : (t' : Int) < (n : Int) := by omega
          have hne : ((t' : Int) == (n : Int)) = false := by rw [beq_eq_false_iff_ne]; omega
          obtain ⟨d, hd⟩ : ∃ d, d = n - t' := ⟨_, rfl⟩
          have hsub : (n : Int) - (t' : Int) = (d : Int) := by omega
          have hd24 : d ≤ 24 := by omega
          have a1 := i64_and s' A (by omega) (by omega)
          have a2 := i64_and s' B (by omega) (by omega)
          have q1 := shr_cast A d
          have q2 := shr_cast B d
          obtain ⟨L, hL⟩ : ∃ L, L = (cv A B n (f + 1) (t + (D s).2) (D s).1).map (fun x => l ++ x) := ⟨_, rfl⟩
          have HL0 := Lib.hid hL
          rw [He.out.1, He.out.2, cv_split A B n f t' s' l htn, ← hd] at hL
          have HC0 : ∀ X k : Nat, X % 2 = 1 → X < 8192 → s' &&& X = 0 → X / 2 ^ d = 0 → ∀ (v5 o5 : Value) (w5 : World) (us5 : List Value) (os5 : List (List Int)), Own w5 Q v5 (l ++ [((2 * t' + k : Nat) : Int)]) → Lss w5 Q o5 us5 os5 → Apart v5 o5 → (∀ u ∈ us5, Apart u v5) → os5.length + 2 ^ f ≤ 67108864 → Q ≤ w5.heap.size →
              Calls Tryd.prog 47 #[.int .i64 A, .int .i64 B, .int .i64 n, .int .i64 t', .int .i64 ((s' ||| X : Nat) : Int), v5, o5] w5 (MV Q o5 (os5 ++ goR A B n f t' s' l X k) w5) := fun X k hX1 hX2 h0 h1 v5 o5 w5 us5 os5 g1 g2 g3 g4 g5 g6 => by
            rw [hd] at h1
            obtain ⟨e1, e2, e3, e4, e5⟩ := cv_step (A := X) (n := n) (t := t') (s := s') hX1 hev htn2 hn Hsl.out h0 h1
            rw [or_add (by omega) (by omega) h0]
            exact Ih.out t' (s' + X) _ v5 w5 Q o5 us5 os5 ht' e5 (by omega) (by omega) (by have := Hll.out; rw [He.out.1] at this; have := Hq.out; simp only [List.length_append, List.length_cons, List.length_nil]; omega) g1 g2 g3 g4 g5 g6
          have o1 := i64_or s' A (by omega) (by omega)
          have o2 := i64_or s' B (by omega) (by omega)
          have HC1 := HC0 A 0 hA1 hA2
          have HC2 := HC0 B 1 hB1 hB2
          obtain ⟨zA, hzA⟩ : ∃ zA, zA = s' ||| A := ⟨_, rfl⟩
          obtain ⟨zB, hzB⟩ : ∃ zB, zB = s' ||| B := ⟨_, rfl⟩
          rw [← hzA] at HC1 o1
          rw [← hzB] at HC2 o2
          clear hzA hzB HC0
          obtain ⟨P1, hP1, S1⟩ := lside s' A d (goR A B n f t' s' l A 0)
          obtain ⟨P2, hP2, S2⟩ := lside2 A s' B d (goR A B n f t' s' l B 1)
          rw [← hP1, ← hP2] at hL
          clear hP1 hP2
          have Hsplit := Lib.hid hL
          obtain ⟨x0, hx0⟩ : ∃ x0, x0 = 2 * t' + 0 := ⟨_, rfl⟩
          obtain ⟨x1, hx1⟩ : ∃ x1, x1 = 2 * t' + 1 := ⟨_, rfl⟩
          have hm0 : 2 * (t' : Int) = (x0 : Int) := by omega
          have hm1 : (x0 : Int) + 1 = (x1 : Int) := by omega
          have hx0l : x0 ≤ 48 := by omega
          have hx1l : x1 ≤ 49 := by omega
          have hg0 : ∀ y : List Int, y ++ [((2 * t' + 0 : Nat) : Int)] = y ++ [(x0 : Int)] := fun y => by rw [hx0]
          have hg1 : ∀ y : List Int, y ++ [((2 * t' + 1 : Nat) : Int)] = y ++ [(x1 : Int)] := fun y => by rw [hx1]
          have hw0 : IntKind.i64.wrap (x0 : Int) = (x0 : Int) := wrap_nat (by omega)
          have hw1 : IntKind.i64.wrap (x1 : Int) = (x1 : Int) := wrap_nat (by omega)
          simp only [hg0] at HC1
          simp only [hg1] at HC2
          have HC1' := Lib.hid HC1
          have HC2' := Lib.hid HC2
          obtain ⟨GA, hGA⟩ : ∃ GA, GA = goR A B n f t' s' l A 0 := ⟨_, rfl⟩
          obtain ⟨GB, hGB⟩ : ∃ GB, GB = goR A B n f t' s' l B 1 := ⟨_, rfl⟩
          have Hga : Hid (GA.length ≤ 2 ^ f) := by rw [hGA]; exact goR_len _ _ _ _ _ _ _ _ _
          rw [← hGA] at HC1' S1
          rw [← hGB] at HC2' S2
          have Hqt : Hid (q ≤ t') := by have := Hll.out; rw [He.out.1] at this; exact this
          have hqt := Hqt.out
          have HQ0 := Lib.hid hQ
          obtain ⟨gA, hgA⟩ : ∃ gA, gA = s' &&& A := ⟨_, rfl⟩
          obtain ⟨gB, hgB⟩ : ∃ gB, gB = s' &&& B := ⟨_, rfl⟩
          obtain ⟨yA, hyA⟩ : ∃ yA, yA = A / 2 ^ d := ⟨_, rfl⟩
          obtain ⟨yB, hyB⟩ : ∃ yB, yB = B / 2 ^ d := ⟨_, rfl⟩
          rw [← hgA] at a1 S1 HC1'
          rw [← hgB] at a2 S2 HC2'
          rw [← hyA] at q1 S1 HC1'
          rw [← hyB] at q2 S2 HC2'
          have Hl1 : Hid (os.length + 2 ^ f ≤ 67108864 ∧ (os ++ GA).length + 2 ^ f ≤ 67108864) := by
            have h1 := Hlen0.out
            have h2 := Hga.out
            have h3 := Nat.two_pow_pos f
            rw [Nat.pow_succ] at h1
            unfold Hid
            rw [List.length_append]
            omega
          have Hl1a := Lib.hid Hl1.out.1
          clear hL hx0 hx1 hg0 hg1 HC1 HC2 hGA hGB hgA hgB hyA hyB hd htn Ih He Hsl Hf Hga
          rcases S2 with ⟨hn2, b2⟩ | ⟨hn2, b2, b2b⟩ | ⟨hn2, b2, b2b, b2c⟩ | ⟨hn2, b2, b2b, b2c, k3, k4⟩
          · have Hn2 := Lib.hid hn2
            clear hn2
            rcases S1 with ⟨hn1, b1⟩ | ⟨hn1, b1, b1b⟩ | ⟨hn1, b1, b1b, k1, k2⟩
            · have Hn1 := Lib.hid hn1
              clear hn1
              go_wp2
              go_ret
              rw [← HL0.out, Hsplit.out, Hn1.out, Hn2.out, List.append_nil, List.append_nil]
              exact MV.refl Ho.out
            · have Hn1 := Lib.hid hn1
              clear hn1
              go_wp2
              go_ret
              rw [← HL0.out, Hsplit.out, Hn1.out, Hn2.out, List.append_nil, List.append_nil]
              exact MV.refl Ho.out
            · have Hn1 := Lib.hid hn1
              clear hn1
              have HCa := Lib.hid (HC1'.out k1 k2)
              clear k1 k2
              have tokA5 : True := trivial; have tokB5 : True := trivial; have tokC5 : True := trivial
              go_wp2_with (first | (at_builtin; clear tokA5; refine wp_appendV rfl (.tmp 53) (.tmp 54) rfl rfl rfl (Own.empty (Nat.le_refl _)) (Hv.out.alloc _).ints (by rw [List.length_nil]; have := Hq.out; omega) (one_boxC w _).size ?_; intro v5a w5a ho5a hg5a hb5a hat5a; rw [List.nil_append] at ho5a; obtain ⟨A5a, c5a, hv5a, _, _⟩ := ho5a.slice; rw [← Hq.out] at hv5a; subst hv5a; have hX5a : Hid (Ext w w5a) := Below.trans (one_boxC w _) hb5a; clear hg5a hb5a hat5a) | (at_builtin; clear tokB5; refine wp_append1 rfl (.tmp 55) (.tmp 58) rfl rfl rfl ho5a (by unfold I64; omega) (by have := Hq.out; omega) hX5a.out.size ?_; intro v5b w5b ho5b hg5b hb5b hat5b; obtain ⟨A5b, c5b, hv5b, _, _⟩ := ho5b.slice; obtain ⟨q5, hq5⟩ : ∃ q5, q5 = (l ++ [(x0 : Int)]).length := ⟨_, rfl⟩; rw [← hq5] at hv5b; clear hq5; subst hv5b; have Hx5 : Hid (Ext w w5b) := Below.trans hX5a.out hb5b; clear hg5b hb5b hat5b ho5a) | (go_at_call 47; clear tokC5; refine (HCa.out _ _ _ _ _ (ho5b.base HQ0.out) (Ho.out.ext Hx5.out) (Apart.baseL ho5b fun k hk => (Ho.out.1.lt k hk).2) (fun u hu => by obtain ⟨m', hm'⟩ := Ho.out.mem hu; exact Apart.symmL ho5b fun k hk => (hm'.lt k hk).2) Hl1.out.1 (Nat.le_trans HQ0.out Hx5.out.size)).mono ?_; rintro e w5 ⟨v5, us5, rfl, hL5, hg5, hat5⟩; obtain ⟨A5, c5, hv5, _, _⟩ := hL5.form; obtain ⟨m5, hm5⟩ : ∃ m5, m5 = us5.length := ⟨_, rfl⟩; rw [← hm5] at hv5; clear hm5; subst hv5; have HL5 := Lib.hid hL5; have Hap5 : Hid (Own w5 Q (.slice Av q cv') l) := (Hv.out.ext Hx5.out).kept hg5 Hap.out; have HQ5 : Hid (Q ≤ w5.heap.size) := Nat.le_trans (Nat.le_trans HQ0.out Hx5.out.size) hg5.size; have Hg5 := Lib.hid (grownBy_tr (grownBy_of_ext Hx5.out _) hg5); have Hat5 := Lib.hid hat5; clear hL5 hg5 hat5 ho5b))
              go_ret
              rw [← HL0.out, Hsplit.out, Hn1.out, Hn2.out, List.append_nil]
              exact ⟨_, us5, rfl, HL5.out, Hg5.out, fun k hk => by rcases Hat5.out k hk with h | h; exact .inl h; exact .inr (Nat.le_trans Hx5.out.size h)⟩
          · have Hn2 := Lib.hid hn2
            clear hn2
            rcases S1 with ⟨hn1, b1⟩ | ⟨hn1, b1, b1b⟩ | ⟨hn1, b1, b1b, k1, k2⟩
            · have Hn1 := Lib.hid hn1
              clear hn1
              go_wp2
              go_ret
              rw [← HL0.out, Hsplit.out, Hn1.out, Hn2.out, List.append_nil, List.append_nil]
              exact MV.refl Ho.out
            · have Hn1 := Lib.hid hn1
              clear hn1
              go_wp2
              go_ret
              rw [← HL0.out, Hsplit.out, Hn1.out, Hn2.out, List.append_nil, List.append_nil]
              exact MV.refl Ho.out
            · have Hn1 := Lib.hid hn1
              clear hn1
              have HCa := Lib.hid (HC1'.out k1 k2)
              clear k1 k2
              have tokA5 : True := trivial; have tokB5 : True := trivial; have tokC5 : True := trivial
              go_wp2_with (first | (at_builtin; clear tokA5; refine wp_appendV rfl (.tmp 53) (.tmp 54) rfl rfl rfl (Own.empty (Nat.le_refl _)) (Hv.out.alloc _).ints (by rw [List.length_nil]; have := Hq.out; omega) (one_boxC w _).size ?_; intro v5a w5a ho5a hg5a hb5a hat5a; rw [List.nil_append] at ho5a; obtain ⟨A5a, c5a, hv5a, _, _⟩ := ho5a.slice; rw [← Hq.out] at hv5a; subst hv5a; have hX5a : Hid (Ext w w5a) := Below.trans (one_boxC w _) hb5a; clear hg5a hb5a hat5a) | (at_builtin; clear tokB5; refine wp_append1 rfl (.tmp 55) (.tmp 58) rfl rfl rfl ho5a (by unfold I64; omega) (by have := Hq.out; omega) hX5a.out.size ?_; intro v5b w5b ho5b hg5b hb5b hat5b; obtain ⟨A5b, c5b, hv5b, _, _⟩ := ho5b.slice; obtain ⟨q5, hq5⟩ : ∃ q5, q5 = (l ++ [(x0 : Int)]).length := ⟨_, rfl⟩; rw [← hq5] at hv5b; clear hq5; subst hv5b; have Hx5 : Hid (Ext w w5b) := Below.trans hX5a.out hb5b; clear hg5b hb5b hat5b ho5a) | (go_at_call 47; clear tokC5; refine (HCa.out _ _ _ _ _ (ho5b.base HQ0.out) (Ho.out.ext Hx5.out) (Apart.baseL ho5b fun k hk => (Ho.out.1.lt k hk).2) (fun u hu => by obtain ⟨m', hm'⟩ := Ho.out.mem hu; exact Apart.symmL ho5b fun k hk => (hm'.lt k hk).2) Hl1.out.1 (Nat.le_trans HQ0.out Hx5.out.size)).mono ?_; rintro e w5 ⟨v5, us5, rfl, hL5, hg5, hat5⟩; obtain ⟨A5, c5, hv5, _, _⟩ := hL5.form; obtain ⟨m5, hm5⟩ : ∃ m5, m5 = us5.length := ⟨_, rfl⟩; rw [← hm5] at hv5; clear hm5; subst hv5; have HL5 := Lib.hid hL5; have Hap5 : Hid (Own w5 Q (.slice Av q cv') l) := (Hv.out.ext Hx5.out).kept hg5 Hap.out; have HQ5 : Hid (Q ≤ w5.heap.size) := Nat.le_trans (Nat.le_trans HQ0.out Hx5.out.size) hg5.size; have Hg5 := Lib.hid (grownBy_tr (grownBy_of_ext Hx5.out _) hg5); have Hat5 := Lib.hid hat5; clear hL5 hg5 hat5 ho5b))
              go_ret
              rw [← HL0.out, Hsplit.out, Hn1.out, Hn2.out, List.append_nil]
              exact ⟨_, us5, rfl, HL5.out, Hg5.out, fun k hk => by rcases Hat5.out k hk with h | h; exact .inl h; exact .inr (Nat.le_trans Hx5.out.size h)⟩
          · have Hn2 := Lib.hid hn2
            clear hn2
            rcases S1 with ⟨hn1, b1⟩ | ⟨hn1, b1, b1b⟩ | ⟨hn1, b1, b1b, k1, k2⟩
            · have Hn1 := Lib.hid hn1
              clear hn1
              go_wp2
              go_ret
              rw [← HL0.out, Hsplit.out, Hn1.out, Hn2.out, List.append_nil, List.append_nil]
              exact MV.refl Ho.out
            · have Hn1 := Lib.hid hn1
              clear hn1
              go_wp2
              go_ret
              rw [← HL0.out, Hsplit.out, Hn1.out, Hn2.out, List.append_nil, List.append_nil]
              exact MV.refl Ho.out
            · have Hn1 := Lib.hid hn1
              clear hn1
              have HCa := Lib.hid (HC1'.out k1 k2)
              clear k1 k2
              have tokA5 : True := trivial; have tokB5 : True := trivial; have tokC5 : True := trivial
              go_wp2_with (first | (at_builtin; clear tokA5; refine wp_appendV rfl (.tmp 53) (.tmp 54) rfl rfl rfl (Own.empty (Nat.le_refl _)) (Hv.out.alloc _).ints (by rw [List.length_nil]; have := Hq.out; omega) (one_boxC w _).size ?_; intro v5a w5a ho5a hg5a hb5a hat5a; rw [List.nil_append] at ho5a; obtain ⟨A5a, c5a, hv5a, _, _⟩ := ho5a.slice; rw [← Hq.out] at hv5a; subst hv5a; have hX5a : Hid (Ext w w5a) := Below.trans (one_boxC w _) hb5a; clear hg5a hb5a hat5a) | (at_builtin; clear tokB5; refine wp_append1 rfl (.tmp 55) (.tmp 58) rfl rfl rfl ho5a (by unfold I64; omega) (by have := Hq.out; omega) hX5a.out.size ?_; intro v5b w5b ho5b hg5b hb5b hat5b; obtain ⟨A5b, c5b, hv5b, _, _⟩ := ho5b.slice; obtain ⟨q5, hq5⟩ : ∃ q5, q5 = (l ++ [(x0 : Int)]).length := ⟨_, rfl⟩; rw [← hq5] at hv5b; clear hq5; subst hv5b; have Hx5 : Hid (Ext w w5b) := Below.trans hX5a.out hb5b; clear hg5b hb5b hat5b ho5a) | (go_at_call 47; clear tokC5; refine (HCa.out _ _ _ _ _ (ho5b.base HQ0.out) (Ho.out.ext Hx5.out) (Apart.baseL ho5b fun k hk => (Ho.out.1.lt k hk).2) (fun u hu => by obtain ⟨m', hm'⟩ := Ho.out.mem hu; exact Apart.symmL ho5b fun k hk => (hm'.lt k hk).2) Hl1.out.1 (Nat.le_trans HQ0.out Hx5.out.size)).mono ?_; rintro e w5 ⟨v5, us5, rfl, hL5, hg5, hat5⟩; obtain ⟨A5, c5, hv5, _, _⟩ := hL5.form; obtain ⟨m5, hm5⟩ : ∃ m5, m5 = us5.length := ⟨_, rfl⟩; rw [← hm5] at hv5; clear hm5; subst hv5; have HL5 := Lib.hid hL5; have Hap5 : Hid (Own w5 Q (.slice Av q cv') l) := (Hv.out.ext Hx5.out).kept hg5 Hap.out; have HQ5 : Hid (Q ≤ w5.heap.size) := Nat.le_trans (Nat.le_trans HQ0.out Hx5.out.size) hg5.size; have Hg5 := Lib.hid (grownBy_tr (grownBy_of_ext Hx5.out _) hg5); have Hat5 := Lib.hid hat5; clear hL5 hg5 hat5 ho5b))
              go_ret
              rw [← HL0.out, Hsplit.out, Hn1.out, Hn2.out, List.append_nil]
              exact ⟨_, us5, rfl, HL5.out, Hg5.out, fun k hk => by rcases Hat5.out k hk with h | h; exact .inl h; exact .inr (Nat.le_trans Hx5.out.size h)⟩
          · have Hn2 := Lib.hid hn2
            clear hn2
            have HCb := Lib.hid (HC2'.out k3 k4)
            clear k3 k4
            rcases S1 with ⟨hn1, b1⟩ | ⟨hn1, b1, b1b⟩ | ⟨hn1, b1, b1b, k1, k2⟩
            · have Hn1 := Lib.hid hn1
              clear hn1
              have tokA6 : True := trivial; have tokB6 : True := trivial; have tokC6 : True := trivial
              go_wp2_with (first | (at_builtin; clear tokA6; refine wp_appendV rfl (.tmp 86) (.tmp 87) rfl rfl rfl (Own.empty (Nat.le_refl _)) (Hv.out.alloc _).ints (by rw [List.length_nil]; have := Hq.out; omega) (one_boxC w _).size ?_; intro v6a w6a ho6a hg6a hb6a hat6a; rw [List.nil_append] at ho6a; obtain ⟨A6a, c6a, hv6a, _, _⟩ := ho6a.slice; rw [← Hq.out] at hv6a; subst hv6a; have hX6a : Hid (Ext w w6a) := Below.trans (one_boxC w _) hb6a; clear hg6a hb6a hat6a) | (at_builtin; clear tokB6; refine wp_append1 rfl (.tmp 88) (.tmp 92) rfl rfl rfl ho6a (by unfold I64; omega) (by have := Hq.out; omega) hX6a.out.size ?_; intro v6b w6b ho6b hg6b hb6b hat6b; obtain ⟨A6b, c6b, hv6b, _, _⟩ := ho6b.slice; obtain ⟨q6, hq6⟩ : ∃ q6, q6 = (l ++ [(x1 : Int)]).length := ⟨_, rfl⟩; rw [← hq6] at hv6b; clear hq6; subst hv6b; have Hx6 : Hid (Ext w w6b) := Below.trans hX6a.out hb6b; clear hg6b hb6b hat6b ho6a) | (go_at_call 47; clear tokC6; refine (HCb.out _ _ _ _ _ (ho6b.base HQ0.out) (Ho.out.ext Hx6.out) (Apart.baseL ho6b fun k hk => (Ho.out.1.lt k hk).2) (fun u hu => by obtain ⟨m', hm'⟩ := Ho.out.mem hu; exact Apart.symmL ho6b fun k hk => (hm'.lt k hk).2) Hl1.out.1 (Nat.le_trans HQ0.out Hx6.out.size)).mono ?_; rintro e w6 ⟨v6, us6, rfl, hL6, hg6, hat6⟩; obtain ⟨A6, c6, hv6, _, _⟩ := hL6.form; obtain ⟨m6, hm6⟩ : ∃ m6, m6 = us6.length := ⟨_, rfl⟩; rw [← hm6] at hv6; clear hm6; subst hv6; have HL6 := Lib.hid hL6;  have HQ6 : Hid (Q ≤ w6.heap.size) := Nat.le_trans (Nat.le_trans HQ0.out Hx6.out.size) hg6.size; have Hg6 := Lib.hid (grownBy_tr (grownBy_of_ext Hx6.out _) hg6); have Hat6 := Lib.hid hat6; clear hL6 hg6 hat6 ho6b))
              go_ret
              rw [← HL0.out, Hsplit.out, Hn1.out, Hn2.out, List.nil_append]
              exact ⟨_, us6, rfl, HL6.out, Hg6.out, fun k hk => by rcases Hat6.out k hk with h | h; exact .inl h; exact .inr (Nat.le_trans Hx6.out.size h)⟩
            · have Hn1 := Lib.hid hn1
              clear hn1
              have tokA6 : True := trivial; have tokB6 : True := trivial; have tokC6 : True := trivial
              go_wp2_with (first | (at_builtin; clear tokA6; refine wp_appendV rfl (.tmp 86) (.tmp 87) rfl rfl rfl (Own.empty (Nat.le_refl _)) (Hv.out.alloc _).ints (by rw [List.length_nil]; have := Hq.out; omega) (one_boxC w _).size ?_; intro v6a w6a ho6a hg6a hb6a hat6a; rw [List.nil_append] at ho6a; obtain ⟨A6a, c6a, hv6a, _, _⟩ := ho6a.slice; rw [← Hq.out] at hv6a; subst hv6a; have hX6a : Hid (Ext w w6a) := Below.trans (one_boxC w _) hb6a; clear hg6a hb6a hat6a) | (at_builtin; clear tokB6; refine wp_append1 rfl (.tmp 88) (.tmp 92) rfl rfl rfl ho6a (by unfold I64; omega) (by have := Hq.out; omega) hX6a.out.size ?_; intro v6b w6b ho6b hg6b hb6b hat6b; obtain ⟨A6b, c6b, hv6b, _, _⟩ := ho6b.slice; obtain ⟨q6, hq6⟩ : ∃ q6, q6 = (l ++ [(x1 : Int)]).length := ⟨_, rfl⟩; rw [← hq6] at hv6b; clear hq6; subst hv6b; have Hx6 : Hid (Ext w w6b) := Below.trans hX6a.out hb6b; clear hg6b hb6b hat6b ho6a) | (go_at_call 47; clear tokC6; refine (HCb.out _ _ _ _ _ (ho6b.base HQ0.out) (Ho.out.ext Hx6.out) (Apart.baseL ho6b fun k hk => (Ho.out.1.lt k hk).2) (fun u hu => by obtain ⟨m', hm'⟩ := Ho.out.mem hu; exact Apart.symmL ho6b fun k hk => (hm'.lt k hk).2) Hl1.out.1 (Nat.le_trans HQ0.out Hx6.out.size)).mono ?_; rintro e w6 ⟨v6, us6, rfl, hL6, hg6, hat6⟩; obtain ⟨A6, c6, hv6, _, _⟩ := hL6.form; obtain ⟨m6, hm6⟩ : ∃ m6, m6 = us6.length := ⟨_, rfl⟩; rw [← hm6] at hv6; clear hm6; subst hv6; have HL6 := Lib.hid hL6;  have HQ6 : Hid (Q ≤ w6.heap.size) := Nat.le_trans (Nat.le_trans HQ0.out Hx6.out.size) hg6.size; have Hg6 := Lib.hid (grownBy_tr (grownBy_of_ext Hx6.out _) hg6); have Hat6 := Lib.hid hat6; clear hL6 hg6 hat6 ho6b))
              go_ret
              rw [← HL0.out, Hsplit.out, Hn1.out, Hn2.out, List.nil_append]
              exact ⟨_, us6, rfl, HL6.out, Hg6.out, fun k hk => by rcases Hat6.out k hk with h | h; exact .inl h; exact .inr (Nat.le_trans Hx6.out.size h)⟩
            · have Hn1 := Lib.hid hn1
              clear hn1
              have HCa := Lib.hid (HC1'.out k1 k2)
              clear k1 k2
              have tokA5 : True := trivial; have tokB5 : True := trivial; have tokC5 : True := trivial; have tokA6 : True := trivial; have tokB6 : True := trivial; have tokC6 : True := trivial
              go_wp2_with (first | (at_builtin; clear tokA5; refine wp_appendV rfl (.tmp 53) (.tmp 54) rfl rfl rfl (Own.empty (Nat.le_refl _)) (Hv.out.alloc _).ints (by rw [List.length_nil]; have := Hq.out; omega) (one_boxC w _).size ?_; intro v5a w5a ho5a hg5a hb5a hat5a; rw [List.nil_append] at ho5a; obtain ⟨A5a, c5a, hv5a, _, _⟩ := ho5a.slice; rw [← Hq.out] at hv5a; subst hv5a; have hX5a : Hid (Ext w w5a) := Below.trans (one_boxC w _) hb5a; clear hg5a hb5a hat5a) | (at_builtin; clear tokB5; refine wp_append1 rfl (.tmp 55) (.tmp 58) rfl rfl rfl ho5a (by unfold I64; omega) (by have := Hq.out; omega) hX5a.out.size ?_; intro v5b w5b ho5b hg5b hb5b hat5b; obtain ⟨A5b, c5b, hv5b, _, _⟩ := ho5b.slice; obtain ⟨q5, hq5⟩ : ∃ q5, q5 = (l ++ [(x0 : Int)]).length := ⟨_, rfl⟩; rw [← hq5] at hv5b; clear hq5; subst hv5b; have Hx5 : Hid (Ext w w5b) := Below.trans hX5a.out hb5b; clear hg5b hb5b hat5b ho5a) | (go_at_call 47; clear tokC5; refine (HCa.out _ _ _ _ _ (ho5b.base HQ0.out) (Ho.out.ext Hx5.out) (Apart.baseL ho5b fun k hk => (Ho.out.1.lt k hk).2) (fun u hu => by obtain ⟨m', hm'⟩ := Ho.out.mem hu; exact Apart.symmL ho5b fun k hk => (hm'.lt k hk).2) Hl1.out.1 (Nat.le_trans HQ0.out Hx5.out.size)).mono ?_; rintro e w5 ⟨v5, us5, rfl, hL5, hg5, hat5⟩; obtain ⟨A5, c5, hv5, _, _⟩ := hL5.form; obtain ⟨m5, hm5⟩ : ∃ m5, m5 = us5.length := ⟨_, rfl⟩; rw [← hm5] at hv5; clear hm5; subst hv5; have HL5 := Lib.hid hL5; have Hap5 : Hid (Own w5 Q (.slice Av q cv') l) := (Hv.out.ext Hx5.out).kept hg5 Hap.out; have HQ5 : Hid (Q ≤ w5.heap.size) := Nat.le_trans (Nat.le_trans HQ0.out Hx5.out.size) hg5.size; have Hg5 := Lib.hid (grownBy_tr (grownBy_of_ext Hx5.out _) hg5); have Hat5 := Lib.hid hat5; clear hL5 hg5 hat5 ho5b) | (at_builtin; clear tokA6; refine wp_appendV rfl (.tmp 86) (.tmp 87) rfl rfl rfl (Own.empty (Nat.le_refl _)) (Hap5.out.alloc _).ints (by rw [List.length_nil]; have := Hq.out; omega) (one_boxC w5 _).size ?_; intro v6a w6a ho6a hg6a hb6a hat6a; rw [List.nil_append] at ho6a; obtain ⟨A6a, c6a, hv6a, _, _⟩ := ho6a.slice; rw [← Hq.out] at hv6a; subst hv6a; have hX6a : Hid (Ext w5 w6a) := Below.trans (one_boxC w5 _) hb6a; clear hg6a hb6a hat6a) | (at_builtin; clear tokB6; refine wp_append1 rfl (.tmp 88) (.tmp 92) rfl rfl rfl ho6a (by unfold I64; omega) (by have := Hq.out; omega) hX6a.out.size ?_; intro v6b w6b ho6b hg6b hb6b hat6b; obtain ⟨A6b, c6b, hv6b, _, _⟩ := ho6b.slice; obtain ⟨q6, hq6⟩ : ∃ q6, q6 = (l ++ [(x1 : Int)]).length := ⟨_, rfl⟩; rw [← hq6] at hv6b; clear hq6; subst hv6b; have Hx6 : Hid (Ext w5 w6b) := Below.trans hX6a.out hb6b; clear hg6b hb6b hat6b ho6a) | (go_at_call 47; clear tokC6; refine (HCb.out _ _ _ _ _ (ho6b.base HQ5.out) (HL5.out.ext Hx6.out) (Apart.baseL ho6b fun k hk => (HL5.out.1.lt k hk).2) (fun u hu => by obtain ⟨m', hm'⟩ := HL5.out.mem hu; exact Apart.symmL ho6b fun k hk => (hm'.lt k hk).2) Hl1.out.2 (Nat.le_trans HQ5.out Hx6.out.size)).mono ?_; rintro e w6 ⟨v6, us6, rfl, hL6, hg6, hat6⟩; obtain ⟨A6, c6, hv6, _, _⟩ := hL6.form; obtain ⟨m6, hm6⟩ : ∃ m6, m6 = us6.length := ⟨_, rfl⟩; rw [← hm6] at hv6; clear hm6; subst hv6; have HL6 := Lib.hid hL6;  have HQ6 : Hid (Q ≤ w6.heap.size) := Nat.le_trans (Nat.le_trans HQ5.out Hx6.out.size) hg6.size; have Hg6 := Lib.hid (grownBy_tr (grownBy_of_ext Hx6.out _) hg6); have Hat6 := Lib.hid hat6; clear hL6 hg6 hat6 ho6b))
              go_ret
              rw [← HL0.out, Hsplit.out, Hn1.out, Hn2.out, ← List.append_assoc]
              exact MV.tr Hg5.out (fun k hk => by rcases Hat5.out k hk with h | h; exact .inl h; exact .inr (Nat.le_trans Hx5.out.size h)) ⟨_, us6, rfl, HL6.out, Hg6.out, fun k hk => by rcases Hat6.out k hk with h | h; exact .inl h; exact .inr (Nat.le_trans Hx6.out.size h)⟩
end Go.Proofs.YtjenhnmfbphbnaaDoor
