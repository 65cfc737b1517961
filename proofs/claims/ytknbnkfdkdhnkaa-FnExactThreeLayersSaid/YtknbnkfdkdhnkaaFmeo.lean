/- Contracts: MeetingsOf and FirstMeeting on both sides. -/
import Derived.Test.YtknbnkfdkdhnkaaFmee
namespace Go.Proofs.Ytknbnkfdkdhnkaa
open Go.RowKit
/-- the pulses of the first layer on which the second one, rotated by s, has a beat -/
def meetOk (k m s : Int) : Prop := ¬ cpI k m = 0 ∧ 0 ≤ s ∧ s ≤ 100
instance (k m s : Int) : Decidable (meetOk k m s) := by unfold meetOk; infer_instance
def meetN (a b n : Nat) (s : Int) : List Int := (layN a n a).filter fun p => decide (p ∈ rotL n (layN b n b) s)
def meetL (k m s : Int) : List Int := if meetOk k m s then meetN k.toNat m.toNat (cpI k m).toNat s else []
theorem meet_f {k m s : Int} (h : ¬ meetOk k m s) : meetL k m s = [] := by unfold meetL; rw [if_neg h]
theorem meet_t {a b n : Nat} {s : Int} (hn : cpI a b = (n : Int)) (h : meetOk a b s) : meetL a b s = meetN a b n s := by unfold meetL; rw [if_pos h, hn]; simp
theorem meetN_len (a b n : Nat) (s : Int) : (meetN a b n s).length ≤ a := by
  have := List.length_filter_le (fun p => decide (p ∈ rotL n (layN b n b) s)) (layN a n a)
  rw [layN_len] at this
  exact this
theorem meetL_len (k m s : Int) : (meetL k m s).length ≤ 1000000 := by
  by_cases h : meetOk k m s
  · obtain ⟨a, b, n, rfl, rfl, hn, ha1, ha12, _⟩ := cpI_pos h.1
    rw [meet_t hn h]
    have := meetN_len a b n s; omega
  · rw [meet_f h]; exact Nat.zero_le _
theorem meet_keep {a b n : Nat} {s : Int} (hok : RhyOk n (layN a n a)) : keepL n (rotL n (layN b n b) s) (layN a n a) = meetN a b n s := by
  unfold keepL meetN
  refine List.filter_congr fun x hx => ?_
  have := hok.2.2 x hx
  rw [Int.emod_eq_of_lt this.1 this.2]
theorem meetN_take_t {a b n : Nat} {s : Int} {j : Nat} {x : Int} (h : (layN a n a)[j]? = some x) (hx : x ∈ rotL n (layN b n b) s) :
    ((layN a n a).take (j + 1)).filter (fun p => decide (p ∈ rotL n (layN b n b) s)) = ((layN a n a).take j).filter (fun p => decide (p ∈ rotL n (layN b n b) s)) ++ [x] := by
  rw [take_succ h, List.filter_append]; simp [hx]
theorem meetN_take_f {a b n : Nat} {s : Int} {j : Nat} {x : Int} (h : (layN a n a)[j]? = some x) (hx : ¬ x ∈ rotL n (layN b n b) s) :
    ((layN a n a).take (j + 1)).filter (fun p => decide (p ∈ rotL n (layN b n b) s)) = ((layN a n a).take j).filter (fun p => decide (p ∈ rotL n (layN b n b) s)) := by
  rw [take_succ h, List.filter_append]; simp [hx]
set_option maxRecDepth 100000 in
set_option maxHeartbeats 1000000 in
theorem meetingsOf_c (k m s : Int) (w : World) : Calls Try.prog 21 #[.int .i64 k, .int .i64 m, .int .i64 s] w (RL (meetL k m s) w) := by
  by_cases h0 : cpI k m = 0
  · have H := Lib.hid (meet_f (k := k) (m := m) (s := s) (fun h => h.1 h0))
    have H0 := Lib.hid h0
    clear h0
    go_enter Try.func21, Try.ntmps21
    go_wp2_with (first | (go_at_call 53; refine (commonPulses_c _ _ _).mono ?_; rintro e w1 ⟨rfl, hx1⟩; rw [H0.out]) | (go_at_call 59; refine (within_t _ ?_).mono ?_; (focus omega); rintro e w1 ⟨rfl, rfl⟩) | (go_at_call 59; refine (within_f _ ?_).mono ?_; (focus omega); rintro e w1 ⟨rfl, rfl⟩))
    go_ret
    exact ⟨_, rfl, by rw [H.out]; exact Own.nil _ _, hx1⟩
  · by_cases hs : 0 ≤ s ∧ s ≤ 100
    · have hok : meetOk k m s := ⟨h0, hs⟩
      obtain ⟨a, b, n, rfl, rfl, hn, ha1, ha12, hb1, hb12, hn1, hn24, hd, hd2, -⟩ := cpI_pos h0
      have H := Lib.hid (meet_t hn hok)
      have H0 := Lib.hid hn
      have Hoa := Lib.hid (lay_ok ha1 hn1 hn24 hd)
      have Hob := Lib.hid (lay_ok hb1 hn1 hn24 hd2)
      have Hk := Lib.hid (meet_keep (b := b) (s := s) (lay_ok ha1 hn1 hn24 hd))
      have Hlb : Hid ((layN b n b).length ≤ n) := by
        obtain ⟨n', hnn, _, _, h5, _⟩ := (lay_ok hb1 hn1 hn24 hd2).nat
        have : n = n' := by omega
        subst this; exact h5
      have Hla : Hid ((layN a n a).length ≤ 1000) := by unfold Hid; rw [layN_len]; omega
      have hnz : ((n : Int) == 0) = false := by rw [beq_eq_false_iff_ne]; omega
      clear h0 hd hd2 hn hok
      go_enter Try.func21, Try.ntmps21
      go_wp2_with (first | (go_at_call 53; refine (commonPulses_c _ _ _).mono ?_; rintro e w1 ⟨rfl, hx1⟩; rw [H0.out]) | (go_at_call 59; refine (within_t _ ?_).mono ?_; (focus omega); rintro e w1 ⟨rfl, rfl⟩) | (go_at_call 59; refine (within_f _ ?_).mono ?_; (focus omega); rintro e w1 ⟨rfl, rfl⟩))
      have tok : True := trivial
      go_wp2_with (first | (go_at_call 55; clear tok; refine (layer_c b n _ (by omega) (by omega) (by omega)).mono ?_; rintro e w2 ⟨u2, rfl, ho2, hx2⟩; obtain ⟨A2, n2, c2, rfl⟩ := ho2.form))
      go_wp2_with (first | (go_at_call 60; refine (rotated_c n (layN b n b) s _ _ ho2.ints ⟨hn1, hn24⟩ Hob.out.2.2 Hlb.out (by omega)).mono ?_; rintro e w3 ⟨v3, rfl, how3, hxw3⟩; (obtain ⟨A3, n3, c3, rfl⟩ := how3.form)))
      have tok : True := trivial
      go_wp2_with (first | (go_at_call 55; clear tok; refine (layer_c a n _ (by omega) (by omega) (by omega)).mono ?_; rintro e w4 ⟨u4, rfl, ho4, hx4⟩; (obtain ⟨A4, n4, c4, rfl⟩ := ho4.form; have hfl := fld1 (n : Int) A4 n4 c4)))
      have Hx4 := Lib.hid hx4
      have Ho4 := Lib.hid ho4
      have Hb : Hid (RVar (w3.alloc (.cells #[.int .i64 (n : Int), .slice A3 n3 c3] 24)) w3.heap.size n (.slice A3 n3 c3)) := RVar.new (T := 24) w3 (n : Int) (.slice A3 n3 c3)
      have Hbl := Lib.hid (how3.ints.ext (one_box w3 (.cells #[.int .i64 (n : Int), .slice A3 n3 c3] 24)))
      have hx0 := hx1.tr (hx2.tr (hxw3.tr (one_box w3 (.cells #[.int .i64 (n : Int), .slice A3 n3 c3] 24))))
      have Hx0 := Lib.hid hx0
      have hn' : 1 ≤ n ∧ n ≤ 1000 := by omega
      clear hx1 hx2 hxw3 hx4 ho2 how3 ho4 hx0
      go_wp2_with (first | (go_at_call 61; refine (meetDel_c n (rotL n (layN b n b) s) (layN a n a) w3.heap.size _ _ _ _ Ho4.out Hx4.out Hb.out Hbl.out hn' Hla.out).mono ?_; rintro e w5 ⟨v5, rfl, ho5, hx5⟩; rw [Hk.out] at ho5))
      go_ret
      exact ⟨_, rfl, by rw [H.out]; exact ho5.base Hx0.out.size, Hx0.out.tr hx5⟩
    · have H := Lib.hid (meet_f (k := k) (m := m) (s := s) (fun h => hs h.2))
      have hnz : (cpI k m == 0) = false := by rw [beq_eq_false_iff_ne]; exact h0
      have hnn := cpI_nonneg k m
      obtain ⟨q, hq⟩ : ∃ q, cpI k m = q := ⟨_, rfl⟩
      rw [hq] at hnz hnn
      have Hq := Lib.hid hq
      clear hq h0
      go_enter Try.func21, Try.ntmps21
      go_wp2_with (first | (go_at_call 53; refine (commonPulses_c _ _ _).mono ?_; rintro e w1 ⟨rfl, hx1⟩; rw [Hq.out]) | (go_at_call 59; refine (within_t _ ?_).mono ?_; (focus omega); rintro e w1 ⟨rfl, rfl⟩) | (go_at_call 59; refine (within_f _ ?_).mono ?_; (focus omega); rintro e w1 ⟨rfl, rfl⟩))
      go_ret
      exact ⟨_, rfl, by rw [H.out]; exact Own.nil _ _, hx1⟩
set_option maxRecDepth 100000 in
set_option maxHeartbeats 1000000 in
theorem specMeetingsOf_c (k m s : Int) (w : World) : Calls Try.prog 20 #[.int .i64 k, .int .i64 m, .int .i64 s] w (RL (meetL k m s) w) := by
  by_cases h0 : cpI k m = 0
  · have H := Lib.hid (meet_f (k := k) (m := m) (s := s) (fun h => h.1 h0))
    have H0 := Lib.hid h0
    clear h0
    go_enter Try.func20, Try.ntmps20
    go_wp2_with (first | (go_at_call 50; refine (specCommonPulses_c _ _ _).mono ?_; rintro e w1 ⟨rfl, hx1⟩; rw [H0.out]) | (go_at_call 56; refine (l01In_t _ ?_).mono ?_; (focus omega); rintro e w1 ⟨rfl, rfl⟩) | (go_at_call 56; refine (l01In_f _ ?_).mono ?_; (focus omega); rintro e w1 ⟨rfl, rfl⟩))
    go_ret
    exact ⟨_, rfl, by rw [H.out]; exact Own.nil _ _, hx1⟩
  · by_cases hs : 0 ≤ s ∧ s ≤ 100
    · have hok : meetOk k m s := ⟨h0, hs⟩
      obtain ⟨a, b, n, rfl, rfl, hn, ha1, ha12, hb1, hb12, hn1, hn24, hd, hd2, -⟩ := cpI_pos h0
      have H := Lib.hid (meet_t hn hok)
      have H0 := Lib.hid hn
      have Hob := Lib.hid (lay_ok hb1 hn1 hn24 hd2)
      have Hla := Lib.hid (show rhL n (layN a n a) = layN a n a by rw [layN_eq']; exact layL_rh ha1 hn1 hd)
      have Hlb := Lib.hid (show rhL n (layN b n b) = layN b n b by rw [layN_eq']; exact layL_rh hb1 hn1 hd2)
      have Hlen : Hid ((layN b n b).length ≤ n) := by
        obtain ⟨n', hnn, _, _, h5, _⟩ := (lay_ok hb1 hn1 hn24 hd2).nat
        have : n = n' := by omega
        subst this; exact h5
      have HlA : Hid ((layN a n a).length = a) := layN_len a n a
      have hnz : ((n : Int) == 0) = false := by rw [beq_eq_false_iff_ne]; omega
      clear h0 hd hd2 hn hok
      go_enter Try.func20, Try.ntmps20
      go_wp2_with (first | (go_at_call 50; refine (specCommonPulses_c _ _ _).mono ?_; rintro e w1 ⟨rfl, hx1⟩; rw [H0.out]) | (go_at_call 56; refine (l01In_t _ ?_).mono ?_; (focus omega); rintro e w1 ⟨rfl, rfl⟩) | (go_at_call 56; refine (l01In_f _ ?_).mono ?_; (focus omega); rintro e w1 ⟨rfl, rfl⟩))
      have tok : True := trivial
      go_wp2_with (first | (go_at_call 52; clear tok; refine (l06Even_c b n _ (by omega) (by omega) (by omega)).mono ?_; rintro e w2 ⟨u2, rfl, ho2, hx2⟩; rw [Hlb.out] at ho2; obtain ⟨A2, n2, c2, rfl⟩ := ho2.form))
      go_wp2_with (first | (go_at_call 57; refine (l02Map1_c n (layN b n b) s _ _ ho2.ints ⟨hn1, hn24⟩ Hob.out.2.2 Hlen.out (by omega)).mono ?_; rintro e w3 ⟨v3, rfl, how3, hxw3⟩; (obtain ⟨A3, n3, c3, rfl⟩ := how3.form)))
      have tok : True := trivial
      go_wp2_with (first | (go_at_call 52; clear tok; refine (l06Even_c a n _ (by omega) (by omega) (by omega)).mono ?_; rintro e w4 ⟨u4, rfl, ho4, hx4⟩; (rw [Hla.out] at ho4; obtain ⟨A4, c4, hv4, _, _⟩ := ho4.slice; rw [HlA.out] at hv4; subst hv4; have hfl := fld1 (n : Int) A4 a c4)))
      obtain ⟨w0, hw0⟩ : ∃ w0, w0 = w3.alloc (.cells #[.int .i64 (n : Int), .slice A3 n3 c3] 24) := ⟨_, rfl⟩
      have hb := RVar.new (T := 24) w3 (n : Int) (.slice A3 n3 c3)
      have hbl := how3.ints.ext (one_box w3 (.cells #[.int .i64 (n : Int), .slice A3 n3 c3] 24))
      have hx0 := hx1.tr (hx2.tr (hxw3.tr (one_box w3 (.cells #[.int .i64 (n : Int), .slice A3 n3 c3] 24))))
      have hsz0 : w0.heap.size = w3.heap.size + 1 := by rw [hw0]; simp
      rw [← hw0] at hb hbl hx0 ho4 hx4
      have Hb := Lib.hid hb
      have Hbl := Lib.hid hbl
      have Hx0 := Lib.hid hx0
      have Hx4 := Lib.hid hx4
      have Ho4 := Lib.hid ho4
      have Hsz0 := Lib.hid hsz0
      clear hx1 hx2 hxw3 hx4 ho2 how3 ho4 hx0 hb hbl hsz0 hw0
      go_loopw [9, 33] (fun o i wr => ∃ j : Nat, j ≤ a ∧ i = .int .i64 j ∧ Hid (Own wr w0.heap.size o (((layN a n a).take j).filter fun p => decide (p ∈ rotL n (layN b n b) s)) ∧ Own wr (w0.heap.size + 1) (.slice A4 a c4) (layN a n a) ∧ Apart (.slice A4 a c4) o ∧ Ext w0 wr)) (fun _ i _ => a - (intOf i).toNat)
      case atStart =>
        refine ⟨0, Nat.zero_le _, rfl, ?_, ?_, ?_, (one_box _ _).tr Hx4.out⟩
        · have := (Own.empty (Nat.le_refl w0.heap.size)).ext Hx4.out
          rw [Hsz0.out] at this ⊢
          exact this
        · have := Ho4.out
          simp only [World.size_alloc] at this
          exact this
        · have := Own.apart' (Own.empty (Nat.le_refl w0.heap.size)) Ho4.out
          rw [Hsz0.out] at this
          exact this
      case round =>
        obtain ⟨j, hj, rfl, hrel⟩ := hrel
        have hc1 := (Hb.out.ext hrel.out.2.2.2).c0
        have hc2 := (Hb.out.ext hrel.out.2.2.2).c1
        by_cases hja : j < a
        · obtain ⟨x, hx⟩ : ∃ x, (layN a n a)[j]? = some x := ⟨_, List.getElem?_eq_getElem (by rw [HlA.out]; exact hja)⟩
          obtain ⟨g, cc, he, _, _, _, hcell, _⟩ := hrel.out.2.1.shape (by rw [HlA.out]; omega)
          obtain ⟨rfl, rfl⟩ : A4 = some ⟨g, 0, none⟩ ∧ c4 = cc := by simp only [Value.slice.injEq] at he; exact ⟨he.1, he.2.2⟩
          have hcx := hcell j x hx
          have hxi : I64 x := hrel.out.2.1.2 x (List.mem_of_getElem? hx)
          have hja2 : (j : Int) < (a : Int) := by omega
          have hol : (((layN a n a).take j).filter fun p => decide (p ∈ rotL n (layN b n b) s)).length ≤ 1099511627776 := by
            have h1 := List.length_filter_le (fun p => decide (p ∈ rotL n (layN b n b) s)) ((layN a n a).take j)
            rw [List.length_take] at h1; omega
          have hsz := hrel.out.2.2.2.size
          by_cases hin : x ∈ rotL n (layN b n b) s
          · have Hn := Lib.hid (meetN_take_t (b := b) (s := s) hx hin)
            have Hin := Lib.hid hin
            clear hin hx hcell he
            go_wp2_with (first | (go_at_call 58; refine (l02Has_c (rotL n (layN b n b) s) _ _ _ (Hbl.out.ext hrel.out.2.2.2)).mono ?_; rintro e wz ⟨b5, rfl, hb5, rfl⟩; obtain rfl := hb5.2 Hin.out; clear hb5) | (at_builtin; refine wp_append1 rfl (.tmp 41) (.tmp 43) rfl rfl rfl hrel.out.1 hxi hol hsz ?_; intro v' w' ho hg hb hat))
            go_roundw
            case rel => exact ⟨j + 1, by omega, by go_num, by rw [Hn.out]; exact ho, hrel.out.2.1.kept hg hrel.out.2.2.1, hrel.out.2.2.1.later (fun k hk => (hrel.out.2.1.lt k hk).2) hat, hrel.out.2.2.2.trans (by assumption)⟩
            case measure => simp [intOf]; omega
          · have Hn := Lib.hid (meetN_take_f (b := b) (s := s) hx hin)
            have Hin := Lib.hid hin
            clear hin hx hcell he
            go_wp2_with (first | (go_at_call 58; refine (l02Has_c (rotL n (layN b n b) s) _ _ _ (Hbl.out.ext hrel.out.2.2.2)).mono ?_; rintro e wz ⟨b5, rfl, hb5, rfl⟩; obtain rfl := bool_f hb5 Hin.out; clear hb5))
            go_roundw
            case rel => exact ⟨j + 1, by omega, by go_num, by rw [Hn.out]; exact hrel.out.1, hrel.out.2.1, hrel.out.2.2.1, hrel.out.2.2.2⟩
            case measure => simp [intOf]; omega
        · obtain rfl : j = a := by omega
          go_wp2
          go_ret
          have h1 := hrel.out.1
          rw [List.take_of_length_le (by rw [HlA.out]; exact Nat.le_refl _)] at h1
          exact ⟨_, rfl, by rw [H.out]; exact h1.base Hx0.out.size, Hx0.out.tr hrel.out.2.2.2⟩
    · have H := Lib.hid (meet_f (k := k) (m := m) (s := s) (fun h => hs h.2))
      have hnz : (cpI k m == 0) = false := by rw [beq_eq_false_iff_ne]; exact h0
      have hnn := cpI_nonneg k m
      obtain ⟨q, hq⟩ : ∃ q, cpI k m = q := ⟨_, rfl⟩
      rw [hq] at hnz hnn
      have Hq := Lib.hid hq
      clear hq h0
      go_enter Try.func20, Try.ntmps20
      go_wp2_with (first | (go_at_call 50; refine (specCommonPulses_c _ _ _).mono ?_; rintro e w1 ⟨rfl, hx1⟩; rw [Hq.out]) | (go_at_call 56; refine (l01In_t _ ?_).mono ?_; (focus omega); rintro e w1 ⟨rfl, rfl⟩) | (go_at_call 56; refine (l01In_f _ ?_).mono ?_; (focus omega); rintro e w1 ⟨rfl, rfl⟩))
      go_ret
      exact ⟨_, rfl, by rw [H.out]; exact Own.nil _ _, hx1⟩
end Go.Proofs.Ytknbnkfdkdhnkaa
