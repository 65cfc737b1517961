/- Contracts: MeetingsOf and FirstMeeting on both sides. -/
import Derived.Test.YtnbfcdanpplllaaFmee
namespace Go.Proofs.Ytnbfcdanpplllaa
open Go.RowKit
/-- the pulses of the first layer on which the second one, rotated by s, has a beat -/
def meetOk (k m s : Int) : Prop := ¬ cpI k m = 0 ∧ 0 ≤ s ∧ s ≤ 100
instance (k m s : Int) : Decidable (meetOk k m s) := by unfold meetOk; infer_instance
def meetN (a b n : Nat) (s : Int) : List Int := (layN a n a).filter fun p => decide (p ∈ rotL n (layN b n b) s)
def meetL (k m s : Int) : List Int := if meetOk k m s then meetN k.toNat m.toNat (cpI k m).toNat s else []
theorem meet_f {k m s : Int} (h : ¬ meetOk k m s) : meetL k m s = [] := by unfold meetL; rw [if_neg h]
theorem meet_t {a b n : Nat} {s : Int} (hn : cpI a b = (n : Int)) (h : meetOk a b s) : meetL a b s = meetN a b n s := by unfold meetL; rw [if_pos h, hn]; simp
theorem meetN_len (a b n : Nat) (s : Int) : (meetN a b n s).length ≤ a := by
  have := List.length_filter_le (fun p => decide (p ∈ rotL n (layN b n b) s)) (layN a n a)
  rw [layN_len] at this
  exact this
theorem meetL_len (k m s : Int) : (meetL k m s).length ≤ 1000000 := by
  by_cases h : meetOk k m s
  · obtain ⟨a, b, n, rfl, rfl, hn, ha1, ha12, _⟩ := cpI_pos h.1
    rw [meet_t hn h]
    have := meetN_len a b n s; omega
  · rw [meet_f h]; exact Nat.zero_le _
theorem meet_keep {a b n : Nat} {s : Int} (hok : RhyOk n (layN a n a)) : keepL n (rotL n (layN b n b) s) (layN a n a) = meetN a b n s := by
  unfold keepL meetN
  refine List.filter_congr fun x hx => ?_
  have := hok.2.2 x hx
  rw [Int.emod_eq_of_lt this.1 this.2]
theorem meetN_take_t {a b n : Nat} {s : Int} {j : Nat} {x : Int} (h : (layN a n a)[j]? = some x) (hx : x ∈ rotL n (layN b n b) s) :
    ((layN a n a).take (j + 1)).filter (fun p => decide (p ∈ rotL n (layN b n b) s)) = ((layN a n a).take j).filter (fun p => decide (p ∈ rotL n (layN b n b) s)) ++ [x] := by
  rw [take_succ h, List.filter_append]; simp [hx]
theorem meetN_take_f {a b n : Nat} {s : Int} {j : Nat} {x : Int} (h : (layN a n a)[j]? = some x) (hx : ¬ x ∈ rotL n (layN b n b) s) :
    ((layN a n a).take (j + 1)).filter (fun p => decide (p ∈ rotL n (layN b n b) s)) = ((layN a n a).take j).filter (fun p => decide (p ∈ rotL n (layN b n b) s)) := by
  rw [take_succ h, List.filter_append]; simp [hx]
set_option maxRecDepth 100000 in
set_option maxHeartbeats 1000000 in
theorem meetingsOf_c (k m s : Int) (w : World) : Calls Try.prog 11 #[.int .i64 k, .int .i64 m, .int .i64 s] w (RL (meetL k m s) w) := by
  by_cases h0 : cpI k m = 0
  · have H := Lib.hid (meet_f (k := k) (m := m) (s := s) (fun h => h.1 h0))
    have H0 := Lib.hid h0
    clear h0
    go_enter Try.func11, Try.ntmps11
    go_wp2_with (first | (go_at_call 5; refine (commonPulses_c _ _ _).mono ?_; rintro e w1 ⟨rfl, hx1⟩; rw [H0.out]) | (go_at_call 20; refine (within_t _ ?_).mono ?_; (focus omega); rintro e w1 ⟨rfl, rfl⟩) | (go_at_call 20; refine (within_f _ ?_).mono ?_; (focus omega); rintro e w1 ⟨rfl, rfl⟩))
    go_ret
    exact ⟨_, rfl, by rw [H.out]; exact Own.nil _ _, hx1⟩
  · by_cases hs : 0 ≤ s ∧ s ≤ 100
    · have hok : meetOk k m s := ⟨h0, hs⟩
      obtain ⟨a, b, n, rfl, rfl, hn, ha1, ha12, hb1, hb12, hn1, hn24, hd, hd2, -⟩ := cpI_pos h0
      have H := Lib.hid (meet_t hn hok)
      have H0 := Lib.hid hn
      have Hoa := Lib.hid (lay_ok ha1 hn1 hn24 hd)
      have Hob := Lib.hid (lay_ok hb1 hn1 hn24 hd2)
      have Hk := Lib.hid (meet_keep (b := b) (s := s) (lay_ok ha1 hn1 hn24 hd))
      have Hlb : Hid ((layN b n b).length ≤ n) := by
        obtain ⟨n', hnn, _, _, h5, _⟩ := (lay_ok hb1 hn1 hn24 hd2).nat
        have : n = n' := by omega
        subst this; exact h5
      have Hla : Hid ((layN a n a).length ≤ 1000) := by unfold Hid; rw [layN_len]; omega
      have hnz : ((n : Int) == 0) = false := by rw [beq_eq_false_iff_ne]; omega
      clear h0 hd hd2 hn hok
      go_enter Try.func11, Try.ntmps11
      go_wp2_with (first | (go_at_call 5; refine (commonPulses_c _ _ _).mono ?_; rintro e w1 ⟨rfl, hx1⟩; rw [H0.out]) | (go_at_call 20; refine (within_t _ ?_).mono ?_; (focus omega); rintro e w1 ⟨rfl, rfl⟩) | (go_at_call 20; refine (within_f _ ?_).mono ?_; (focus omega); rintro e w1 ⟨rfl, rfl⟩))
      have tok : True := trivial
      go_wp2_with (first | (go_at_call 22; clear tok; refine (layer_c b n _ (by omega) (by omega) (by omega)).mono ?_; rintro e w2 ⟨u2, rfl, ho2, hx2⟩; obtain ⟨A2, n2, c2, rfl⟩ := ho2.form))
      go_wp2_with (first | (go_at_call 25; refine (rotated_c n (layN b n b) s _ _ ho2.ints ⟨hn1, hn24⟩ Hob.out.2.2 Hlb.out (by omega)).mono ?_; rintro e w3 ⟨v3, rfl, how3, hxw3⟩; (obtain ⟨A3, n3, c3, rfl⟩ := how3.form)))
      have tok : True := trivial
      go_wp2_with (first | (go_at_call 22; clear tok; refine (layer_c a n _ (by omega) (by omega) (by omega)).mono ?_; rintro e w4 ⟨u4, rfl, ho4, hx4⟩; (obtain ⟨A4, n4, c4, rfl⟩ := ho4.form; have hfl := fld1 (n : Int) A4 n4 c4)))
      have Hx4 := Lib.hid hx4
      have Ho4 := Lib.hid ho4
      have Hb : Hid (RVar (w3.alloc (.cells #[.int .i64 (n : Int), .slice A3 n3 c3] 27)) w3.heap.size n (.slice A3 n3 c3)) := RVar.new (T := 27) w3 (n : Int) (.slice A3 n3 c3)
      have Hbl := Lib.hid (how3.ints.ext (one_box w3 (.cells #[.int .i64 (n : Int), .slice A3 n3 c3] 27)))
      have hx0 := hx1.tr (hx2.tr (hxw3.tr (one_box w3 (.cells #[.int .i64 (n : Int), .slice A3 n3 c3] 27))))
      have Hx0 := Lib.hid hx0
      have hn' : 1 ≤ n ∧ n ≤ 1000 := by omega
      clear hx1 hx2 hxw3 hx4 ho2 how3 ho4 hx0
      go_wp2_with (first | (go_at_call 26; refine (meetDel_c n (rotL n (layN b n b) s) (layN a n a) w3.heap.size _ _ _ _ Ho4.out Hx4.out Hb.out Hbl.out hn' Hla.out).mono ?_; rintro e w5 ⟨v5, rfl, ho5, hx5⟩; rw [Hk.out] at ho5))
      go_ret
      exact ⟨_, rfl, by rw [H.out]; exact ho5.base Hx0.out.size, Hx0.out.tr hx5⟩
    · have H := Lib.hid (meet_f (k := k) (m := m) (s := s) (fun h => hs h.2))
      have hnz : (cpI k m == 0) = false := by rw [beq_eq_false_iff_ne]; exact h0
      have hnn := cpI_nonneg k m
      obtain ⟨q, hq⟩ : ∃ q, cpI k m = q := ⟨_, rfl⟩
      rw [hq] at hnz hnn
      have Hq := Lib.hid hq
      clear hq h0
      go_enter Try.func11, Try.ntmps11
      go_wp2_with (first | (go_at_call 5; refine (commonPulses_c _ _ _).mono ?_; rintro e w1 ⟨rfl, hx1⟩; rw [Hq.out]) | (go_at_call 20; refine (within_t _ ?_).mono ?_; (focus omega); rintro e w1 ⟨rfl, rfl⟩) | (go_at_call 20; refine (within_f _ ?_).mono ?_; (focus omega); rintro e w1 ⟨rfl, rfl⟩))
      go_ret
      exact ⟨_, rfl, by rw [H.out]; exact Own.nil _ _, hx1⟩
end Go.Proofs.Ytnbfcdanpplllaa
