/- Contracts: FirstMeeting and ThreeLayers on both sides. -/
import Derived.Test.YtnbfcdanpplllaaFmeo
namespace Go.Proofs.Ytnbfcdanpplllaa
open Go.RowKit
def firI (k m s : Int) : Int := (meetL k m s).headD (-1)
theorem firstMeeting_c (k m s : Int) (w : World) : Calls Try.prog 10 #[.int .i64 k, .int .i64 m, .int .i64 s] w (RI (firI k m s) w) := by
  by_cases h0 : (meetL k m s).length = 0
  · have H : Hid (firI k m s = -1) := by unfold Hid firI; rw [List.eq_nil_of_length_eq_zero h0]; rfl
    have H0 := Lib.hid h0
    clear h0
    go_enter Try.func10, Try.ntmps10
    go_wp2_with (first | (go_at_call 11; refine (meetingsOf_c k m s _).mono ?_; rintro e w1 ⟨v1, rfl, ho1, hx1⟩; (obtain ⟨A, c, hv, _, _⟩ := ho1.slice; rw [H0.out] at hv; subst hv)))
    go_ret
    exact ⟨by rw [H.out]; rfl, hx1⟩
  · obtain ⟨x, hx⟩ : ∃ x, (meetL k m s)[0]? = some x := ⟨_, List.getElem?_eq_getElem (by omega)⟩
    have H : Hid (firI k m s = x) := by unfold Hid firI; rw [List.headD_eq_head?_getD, List.head?_eq_getElem?, hx]; rfl
    have Hx := Lib.hid hx
    have hl1 : 1 ≤ (meetL k m s).length := by omega
    have Hl1 := Lib.hid hl1
    clear h0 hx hl1
    go_enter Try.func10, Try.ntmps10
    go_wp2_with (first | (go_at_call 11; refine (meetingsOf_c k m s _).mono ?_; rintro e w1 ⟨v1, rfl, ho1, hx1⟩; (obtain ⟨g, c, hv, _, _, _, hcell, _⟩ := ho1.shape Hl1.out; have hcx := hcell 0 x Hx.out; obtain ⟨q, hq⟩ : ∃ q, q = (meetL k m s).length := ⟨_, rfl⟩; have hq1 : 1 ≤ q := (by rw [hq]; exact Hl1.out); rw [← hq] at hv; clear hq hcell ho1; subst hv; have hb : ((q : Int) == 0) = false := (by rw [beq_eq_false_iff_ne]; omega); have hqi : (1 : Int) ≤ (q : Int) := (by omega))))
    go_ret
    exact ⟨by rw [H.out]; rfl, hx1⟩
/-- three layers -/
def tlN (a b c : Nat) : Nat := cpN (cpN a b) c
def tlOk (k m l : Int) : Prop := 1 ≤ k ∧ k ≤ 12 ∧ 1 ≤ m ∧ m ≤ 12 ∧ 1 ≤ l ∧ l ≤ 12 ∧ tlN k.toNat m.toNat l.toNat ≤ 24
instance (k m l : Int) : Decidable (tlOk k m l) := by unfold tlOk; infer_instance
def tlB (k m l : Int) : Bool := decide (tlOk k m l)
def tlI (k m l : Int) : Int := if tlOk k m l then (tlN k.toNat m.toNat l.toNat : Int) else 0
def tlM (a b c : Nat) : List Int := rhL (tlN a b c) (layN a (tlN a b c) a ++ (layN b (tlN a b c) b ++ layN c (tlN a b c) c))
def tlL (k m l : Int) : List Int := if tlOk k m l then tlM k.toNat m.toNat l.toNat else []
theorem tl_f {k m l : Int} (h : ¬ tlOk k m l) : tlB k m l = false ∧ tlI k m l = 0 ∧ tlL k m l = [] := by
  unfold tlB tlI tlL; rw [if_neg h, if_neg h]; exact ⟨by simpa using h, rfl, rfl⟩
theorem tl_t {a b c : Nat} (h : tlOk a b c) : tlB a b c = true ∧ tlI a b c = (tlN a b c : Nat) ∧ tlL a b c = tlM a b c := by
  unfold tlB tlI tlL; rw [if_pos h, if_pos h]; exact ⟨by simpa using h, by simp, by simp⟩
theorem tlL_len (k m l : Int) : (tlL k m l).length ≤ 1000000 := by
  unfold tlL
  split
  · rename_i h; have := rhL_len (tlN k.toNat m.toNat l.toNat) (layN k.toNat (tlN k.toNat m.toNat l.toNat) k.toNat ++ (layN m.toNat (tlN k.toNat m.toNat l.toNat) m.toNat ++ layN l.toNat (tlN k.toNat m.toNat l.toNat) l.toNat))
    have h7 := h.2.2.2.2.2.2
    unfold tlM; omega
  · exact Nat.zero_le _
theorem tl_div {a b c : Nat} (ha : 1 ≤ a) (hb : 1 ≤ b) (hc : 1 ≤ c) : tlN a b c % a = 0 ∧ tlN a b c % b = 0 ∧ tlN a b c % c = 0 ∧ 1 ≤ tlN a b c := by
  obtain ⟨h1, h2, h3⟩ := cpN_mod ha hb
  obtain ⟨h4, h5, h6⟩ := cpN_mod h3 hc
  refine ⟨?_, ?_, h5, h6⟩
  · exact Nat.mod_eq_zero_of_dvd (Nat.dvd_trans (Nat.dvd_of_mod_eq_zero h1) (Nat.dvd_of_mod_eq_zero h4))
  · exact Nat.mod_eq_zero_of_dvd (Nat.dvd_trans (Nat.dvd_of_mod_eq_zero h2) (Nat.dvd_of_mod_eq_zero h4))
theorem mem_lay3 {a b c n p : Nat} (ha : 1 ≤ a) (hb : 1 ≤ b) (hc : 1 ≤ c) (hn : 1 ≤ n) (h1 : n % a = 0) (h2 : n % b = 0) (h3 : n % c = 0) (hp : p < n) :
    (p : Int) ∈ layN a n a ++ (layN b n b ++ layN c n c) ↔ p % (n / a) = 0 ∨ p % (n / b) = 0 ∨ p % (n / c) = 0 := by
  rw [List.mem_append, List.mem_append, layN_eq', layN_eq', layN_eq', mem_layL ha hn h1 hp, mem_layL hb hn h2 hp, mem_layL hc hn h3 hp]
/-- the pulses below j of three layers -/
def tlUp (a b c n j : Nat) : List Int := ((List.range j).filter fun p => decide (p % (n / a) = 0 ∨ p % (n / b) = 0 ∨ p % (n / c) = 0)).map fun (p : Nat) => (p : Int)
theorem tlUp_t {a b c n j : Nat} (h : j % (n / a) = 0 ∨ j % (n / b) = 0 ∨ j % (n / c) = 0) : tlUp a b c n (j + 1) = tlUp a b c n j ++ [(j : Int)] := by
  unfold tlUp; rw [List.range_succ, List.filter_append]; simp [h]
theorem tlUp_f {a b c n j : Nat} (h : ¬ (j % (n / a) = 0 ∨ j % (n / b) = 0 ∨ j % (n / c) = 0)) : tlUp a b c n (j + 1) = tlUp a b c n j := by
  unfold tlUp; rw [List.range_succ, List.filter_append]
  rw [List.filter_cons_of_neg (by simpa using h)]
  simp
theorem tlUp_len (a b c n j : Nat) : (tlUp a b c n j).length ≤ j := by
  unfold tlUp; rw [List.length_map]; exact Nat.le_trans (List.length_filter_le _ _) (by simp)
theorem tlUp_rh {a b c : Nat} (ha : 1 ≤ a) (hb : 1 ≤ b) (hc : 1 ≤ c) : rhL (tlN a b c) (tlUp a b c (tlN a b c) (tlN a b c)) = tlM a b c := by
  obtain ⟨h1, h2, h3, h4⟩ := tl_div ha hb hc
  refine rhL_congr fun x hx0 hxn => ?_
  obtain ⟨p, rfl⟩ := Int.eq_ofNat_of_zero_le hx0
  have hp : p < tlN a b c := by omega
  rw [show ((p : Nat) : Int) = (p : Int) from rfl, mem_lay3 ha hb hc h4 h1 h2 h3 hp]
  unfold tlUp
  rw [List.mem_map]
  constructor
  · rintro ⟨q, hq, he⟩
    have : q = p := by omega
    subst this
    rw [List.mem_filter] at hq
    simpa using hq.2
  · intro h
    exact ⟨p, by rw [List.mem_filter, List.mem_range]; exact ⟨hp, by simpa using h⟩, rfl⟩
set_option maxRecDepth 100000 in
set_option maxHeartbeats 2000000 in
theorem threeLayers_c (k m l : Int) (w : World) : Calls Try.prog 14 #[.int .i64 k, .int .i64 m, .int .i64 l] w (RRB (tlI k m l) (tlL k m l) (tlB k m l) w) := by
  have hv0 := RVar.new (T := 27) w 0 (.slice none 0 0)
  have hx0 := one_box w (.cells #[.int .i64 0, .slice none 0 0] 27)
  have hd0 := hv0.c0
  have hf0 := hv0.f 0
  have hd1 := (hv0.set0 (m := 0)).c1
  have hf1 := (hv0.set0 (m := 0)).f 1
  have Hr := Lib.hid (ret_fin (n := 0) (B := w.heap.size + 1) hv0 (Own.nil _ _) (Nat.le_refl _) hx0)
  by_cases hk : 1 ≤ k ∧ k ≤ 12
  · by_cases hm : 1 ≤ m ∧ m ≤ 12
    · by_cases hl : 1 ≤ l ∧ l ≤ 12
      · obtain ⟨a, rfl⟩ := Int.eq_ofNat_of_zero_le (show 0 ≤ k by omega)
        obtain ⟨b, rfl⟩ := Int.eq_ofNat_of_zero_le (show 0 ≤ m by omega)
        obtain ⟨c, rfl⟩ := Int.eq_ofNat_of_zero_le (show 0 ≤ l by omega)
        obtain ⟨hk1, hk2⟩ := hk
        obtain ⟨hm1, hm2⟩ := hm
        obtain ⟨hl1, hl2⟩ := hl
        have ha1 : 1 ≤ a := by omega
        have hb1 : 1 ≤ b := by omega
        have hc1 : 1 ≤ c := by omega
        have hg : (1 : Int) ≤ (Nat.gcd a b : Int) := by have := Nat.gcd_pos_of_pos_left b (show 0 < a by omega); omega
        obtain ⟨q, hq, hw⟩ := cp_wrap (k := a) (m := b) (by omega) (by omega)
        have hn1 := (cpN_mod ha1 hb1).2.2
        have hn1l : cpN a b ≤ 144 := by
          unfold cpN
          exact Nat.mul_le_mul (Nat.le_trans (Nat.div_le_self _ _) (show a ≤ 12 by omega)) (show b ≤ 12 by omega)
        have HT : Hid (tlN a b c = cpN (cpN a b) c) := rfl
        obtain ⟨n1, hn1e⟩ : ∃ n1, n1 = cpN a b := ⟨_, rfl⟩
        rw [← hn1e] at hw hn1 hn1l HT
        have hg2 : (1 : Int) ≤ (Nat.gcd n1 c : Int) := by have := Nat.gcd_pos_of_pos_left c (show 0 < n1 by omega); omega
        obtain ⟨q2, hq2, hw2⟩ := cp_wrap (k := n1) (m := c) (by omega) (by omega)
        rw [← HT.out] at hw2
        obtain ⟨hd_a, hd_b, hd_c, hN1⟩ := tl_div ha1 hb1 hc1
        by_cases hok : tlN a b c ≤ 24
        · have H := Lib.hid (tl_t (a := a) (b := b) (c := c) ⟨hk1, hk2, hm1, hm2, hl1, hl2, by simpa using hok⟩)
          have Hla : Hid ((layN a (tlN a b c) a).length = a) := layN_len _ _ _
          have Hlb : Hid ((layN b (tlN a b c) b).length = b) := layN_len _ _ _
          have Hlc : Hid ((layN c (tlN a b c) c).length = c) := layN_len _ _ _
          have HM : Hid (rhL (tlN a b c) (remL (tlN a b c) (layN a (tlN a b c) a ++ (layN b (tlN a b c) b ++ layN c (tlN a b c) c))) = tlM a b c) := by
            unfold Hid tlM
            rw [remL_id]
            intro x hx
            have := (lay_ok ha1 hN1 hok hd_a).2.2
            have := (lay_ok hb1 hN1 hok hd_b).2.2
            have := (lay_ok hc1 hN1 hok hd_c).2.2
            rcases List.mem_append.1 hx with h | h
            · exact (lay_ok ha1 hN1 hok hd_a).2.2 x h
            · rcases List.mem_append.1 h with h | h
              · exact (lay_ok hb1 hN1 hok hd_b).2.2 x h
              · exact (lay_ok hc1 hN1 hok hd_c).2.2 x h
          have Hn1 := Lib.hid hn1e
          clear hn1e hd_a hd_b hd_c
          generalize tlN a b c = n at *
          clear hd0 hf0 hd1 hf1 Hr
          go_enter Try.func14, Try.ntmps14
          have tok : True := trivial
          go_wp2_with (first | (go_at_call 20; refine (within_t _ ?_).mono ?_; (focus omega); rintro e w1 ⟨rfl, rfl⟩) | (go_at_call 20; refine (within_f _ ?_).mono ?_; (focus omega); rintro e w1 ⟨rfl, rfl⟩) | (go_at_call 21; clear tok; refine (gcd_c _ _ (by omega) (by omega) _).mono ?_; rintro e w1 ⟨rfl, hx1⟩))
          have tok : True := trivial
          go_wp2_with (first | (go_at_call 21; clear tok; refine (gcd_c _ _ (by omega) (by omega) _).mono ?_; rintro e w2 ⟨rfl, hx2⟩))
          have Hx2 := Lib.hid (hx1.tr hx2)
          clear hx1 hx2 hg hq hw hg2 hq2 hw2
          have hlen : Hid ((layN a n a ++ (layN b n b ++ layN c n c)).length ≤ 36) := by
            unfold Hid
            rw [List.length_append, List.length_append, Hla.out, Hlb.out, Hlc.out]; omega
          have hfl : Hid ([layN a n a, layN b n b, layN c n c].flatten = layN a n a ++ (layN b n b ++ layN c n c)) := by simp [Hid]
          have tok : True := trivial
          go_wp2_with (first | (go_at_call 22; clear tok; refine (layer_c a n _ (by omega) (by omega) (by omega)).mono ?_; rintro e w3 ⟨u3, rfl, ho3, hx3⟩; (obtain ⟨A3, c3, hv3, _, _⟩ := ho3.slice; rw [Hla.out] at hv3; subst hv3; have hfl3 := fld1 (n : Int) A3 a c3)))
          have tok : True := trivial
          go_wp2_with (first | (go_at_call 22; clear tok; refine (layer_c b n _ (by omega) (by omega) (by omega)).mono ?_; rintro e w4 ⟨u4, rfl, ho4, hx4⟩; (obtain ⟨A4, c4, hv4, _, _⟩ := ho4.slice; rw [Hlb.out] at hv4; subst hv4; have hfl4 := fld1 (n : Int) A4 b c4)))
          have tok : True := trivial
          go_wp2_with (first | (go_at_call 22; clear tok; refine (layer_c c n _ (by omega) (by omega) (by omega)).mono ?_; rintro e w5 ⟨u5, rfl, ho5, hx5⟩; (obtain ⟨A5, c5, hv5, _, _⟩ := ho5.slice; rw [Hlc.out] at hv5; subst hv5; have hfl5 := fld1 (n : Int) A5 c c5; have Hw := Lib.hid (rows3 (T := 25) w5 ((ho3.ext hx4).ext hx5).ints (ho4.ext hx5).ints ho5.ints); have Hx5 := Lib.hid (Hx2.out.tr (hx3.tr (hx4.tr (hx5.tr (one_box w5 (.cells #[.slice A3 a c3, .slice A4 b c4, .slice A5 c c5] 25)))))); clear ho3 ho4 ho5 hx3 hx4 hx5)))
          go_wp2_with (first | (go_at_call 30; refine (slConcat_c _ 3 _ _ _ Hw.out (by rw [hfl.out]; have := hlen.out; omega) (by omega)).mono ?_; rintro e w6 ⟨v6, rfl, ho6, hx6⟩; rw [hfl.out] at ho6) | (go_at_call 29; refine (rhythmOf_c n (layN a n a ++ (layN b n b ++ layN c n c)) _ _ ho6.ints (by omega) (by omega) (by have := hlen.out; omega)).mono ?_; rintro e w7 ⟨v7, rfl, ho7, hx7⟩; rw [HM.out] at ho7; obtain ⟨Au, nu, cu, rfl⟩ := ho7.form; have Hx7 := Lib.hid (Hx5.out.tr (hx6.tr hx7)); have hd0 := (hv0.ext Hx7.out).c0; have hf0 := (hv0.ext Hx7.out).f 0; have hd1 := ((hv0.ext Hx7.out).set0 (m := (n : Int))).c1; have hf1 := ((hv0.ext Hx7.out).set0 (m := (n : Int))).f 1))
          have hz : w.heap.size + 1 ≤ w6.heap.size := by
            have h1 := Hx5.out.size
            have h2 := hx6.size
            simp only [World.size_alloc] at h1 h2
            omega
          have Hr := Lib.hid (ret_fin (n := (n : Int)) (hv0.ext Hx7.out) ho7 hz (hx0.tr Hx7.out))
          have hcf0 := Hr.out.1.c0
          have hcf1 := Hr.out.1.c1
          exact bodyPost_ret (v := .tuple #[.agg #[.int .i64 n, .slice Au nu cu], .bool true]) (by simp [results, Try.results14, hcf0, hcf1, go_sem]) rfl ⟨_, by rw [H.out.1, H.out.2.1], by rw [H.out.2.2]; exact Hr.out.2.1, Hr.out.2.2⟩
        · have H := Lib.hid (tl_f (k := (a : Int)) (m := (b : Int)) (l := (c : Int)) (fun h => hok (by simpa using h.2.2.2.2.2.2)))
          have hok2 : 24 < tlN a b c := by omega
          clear hn1e hd_a hd_b hd_c hd0 hf0 hd1 hf1 Hr hok
          generalize tlN a b c = n at *
          go_enter Try.func14, Try.ntmps14
          have tok : True := trivial
          go_wp2_with (first | (go_at_call 20; refine (within_t _ ?_).mono ?_; (focus omega); rintro e w1 ⟨rfl, rfl⟩) | (go_at_call 20; refine (within_f _ ?_).mono ?_; (focus omega); rintro e w1 ⟨rfl, rfl⟩) | (go_at_call 21; clear tok; refine (gcd_c _ _ (by omega) (by omega) _).mono ?_; rintro e w1 ⟨rfl, hx1⟩))
          have tok : True := trivial
          go_wp2_with (first | (go_at_call 21; clear tok; refine (gcd_c _ _ (by omega) (by omega) _).mono ?_; rintro e w2 ⟨rfl, hx2⟩; (have hx := hx1.tr hx2; have hd0 := (hv0.ext hx).c0; have hf0 := (hv0.ext hx).f 0; have hd1 := ((hv0.ext hx).set0 (m := 0)).c1; have hf1 := ((hv0.ext hx).set0 (m := 0)).f 1; have Hr := Lib.hid (ret_fin (n := 0) (B := w.heap.size + 1) (hv0.ext hx) (Own.nil _ _) (Nat.le_refl _) (hx0.tr hx)))))
          have hcf0 := Hr.out.1.c0
          have hcf1 := Hr.out.1.c1
          exact bodyPost_ret (v := .tuple #[.agg #[.int .i64 0, .slice none 0 0], .bool false]) (by simp [results, Try.results14, hcf0, hcf1, go_sem]) rfl ⟨_, by rw [H.out.1, H.out.2.1], by rw [H.out.2.2]; exact Hr.out.2.1, Hr.out.2.2⟩
      · have H := Lib.hid (tl_f (k := k) (m := m) (l := l) (fun h => hl ⟨h.2.2.2.2.1, h.2.2.2.2.2.1⟩))
        go_enter Try.func14, Try.ntmps14
        go_wp2_with (first | (go_at_call 20; refine (within_t _ ?_).mono ?_; (focus omega); rintro e w1 ⟨rfl, rfl⟩) | (go_at_call 20; refine (within_f _ ?_).mono ?_; (focus omega); rintro e w1 ⟨rfl, rfl⟩))
        have hcf0 := hv0.c0
        have hcf1 := hv0.c1
        exact bodyPost_ret (v := .tuple #[.agg #[.int .i64 0, .slice none 0 0], .bool false]) (by simp [results, Try.results14, hcf0, hcf1, go_sem]) rfl ⟨_, by rw [H.out.1, H.out.2.1], by rw [H.out.2.2]; exact Own.nil _ _, hx0⟩
    · have H := Lib.hid (tl_f (k := k) (m := m) (l := l) (fun h => hm ⟨h.2.2.1, h.2.2.2.1⟩))
      go_enter Try.func14, Try.ntmps14
      go_wp2_with (first | (go_at_call 20; refine (within_t _ ?_).mono ?_; (focus omega); rintro e w1 ⟨rfl, rfl⟩) | (go_at_call 20; refine (within_f _ ?_).mono ?_; (focus omega); rintro e w1 ⟨rfl, rfl⟩))
      have hcf0 := hv0.c0
      have hcf1 := hv0.c1
      exact bodyPost_ret (v := .tuple #[.agg #[.int .i64 0, .slice none 0 0], .bool false]) (by simp [results, Try.results14, hcf0, hcf1, go_sem]) rfl ⟨_, by rw [H.out.1, H.out.2.1], by rw [H.out.2.2]; exact Own.nil _ _, hx0⟩
  · have H := Lib.hid (tl_f (k := k) (m := m) (l := l) (fun h => hk ⟨h.1, h.2.1⟩))
    go_enter Try.func14, Try.ntmps14
    go_wp2_with (first | (go_at_call 20; refine (within_t _ ?_).mono ?_; (focus omega); rintro e w1 ⟨rfl, rfl⟩) | (go_at_call 20; refine (within_f _ ?_).mono ?_; (focus omega); rintro e w1 ⟨rfl, rfl⟩))
    have hcf0 := hv0.c0
    have hcf1 := hv0.c1
    exact bodyPost_ret (v := .tuple #[.agg #[.int .i64 0, .slice none 0 0], .bool false]) (by simp [results, Try.results14, hcf0, hcf1, go_sem]) rfl ⟨_, by rw [H.out.1, H.out.2.1], by rw [H.out.2.2]; exact Own.nil _ _, hx0⟩
end Go.Proofs.Ytnbfcdanpplllaa
