/- Contracts: JoinRhythms on both sides. -/
import Derived.Test.YtnbfcdanpplllaaFsam
import Derived.Test.YtnbfcdanpplllaaFcat
import Derived.Test.YtnbfcdanpplllaaFrot
namespace Go.Proofs.Ytnbfcdanpplllaa
open Go.RowKit
/-- the pulses of two rhythms of one size -/
def joinB (n m : Int) (l l' : List Int) : Bool := decide (sameOk n m l l')
def joinN (n m : Int) (l l' : List Int) : Int := if sameOk n m l l' then n else 0
def joinL (n m : Int) (l l' : List Int) : List Int := if sameOk n m l l' then rhL n.toNat (l ++ l') else []
theorem join_t {n : Nat} {m : Int} {l l' : List Int} (h : sameOk n m l l') : joinB n m l l' = true ∧ joinN n m l l' = n ∧ joinL n m l l' = rhL n (l ++ l') := by
  unfold joinB joinN joinL
  rw [if_pos h, if_pos h]
  exact ⟨by simpa using h, rfl, by simp⟩
theorem join_f {n m : Int} {l l' : List Int} (h : ¬ sameOk n m l l') : joinB n m l l' = false ∧ joinN n m l l' = 0 ∧ joinL n m l l' = [] := by
  unfold joinB joinN joinL
  rw [if_neg h, if_neg h]
  exact ⟨by simpa using h, rfl, rfl⟩
theorem remL_id {n : Nat} {l : List Int} (h : ∀ x ∈ l, 0 ≤ x ∧ x < n) : remL n l = l := by
  unfold remL
  conv => rhs; rw [← List.map_id l]
  apply List.map_congr_left
  intro x hx
  have := h x hx
  simp only [id]
  exact Int.emod_eq_of_lt this.1 this.2
set_option maxRecDepth 100000 in
set_option maxHeartbeats 1000000 in
theorem joinRhythms_c (n m : Int) (l l' : List Int) (v u : Value) (w : World) (hv : Ints w v l) (hu : Ints w u l') : Calls Try.prog 13 #[.agg #[.int .i64 n, v], .agg #[.int .i64 m, u]] w (RRB (joinN n m l l') (joinL n m l l') (joinB n m l l') w) := by
  obtain ⟨A, c, hve, _, _⟩ := hv.form0
  obtain ⟨A', c', hue, _, _⟩ := hu.form0
  obtain ⟨k, hk⟩ : ∃ k, k = l.length := ⟨_, rfl⟩
  obtain ⟨k', hk'⟩ : ∃ k', k' = l'.length := ⟨_, rfl⟩
  rw [← hk] at hve
  rw [← hk'] at hue
  subst hve
  subst hue
  obtain ⟨w0, hw0⟩ : ∃ w0, w0 = (w.alloc (.cells #[.int .i64 n, .slice A k c] 27)).alloc (.cells #[.int .i64 m, .slice A' k' c'] 27) := ⟨_, rfl⟩
  have hs0 : w0.heap.size = w.heap.size + 1 + 1 := by rw [hw0]; simp
  have hx : Ext w w0 := by rw [hw0]; exact two_boxes w _ _
  have ha : RVar w0 w.heap.size n (.slice A k c) := by rw [hw0]; exact (RVar.new (T := 27) w n (.slice A k c)).ext (one_box _ _)
  have hb : RVar w0 (w.heap.size + 1) m (.slice A' k' c') := by
    rw [hw0]
    simpa only [World.size_alloc] using RVar.new (T := 27) (w.alloc (.cells #[.int .i64 n, .slice A k c] 27)) m (.slice A' k' c')
  have hx2 := one_box w0 (.cells #[.int .i64 0, .slice none 0 0] 27)
  have hv0 := RVar.new (T := 27) w0 0 (.slice none 0 0)
  have Hv := Lib.hid ((hv.ext hx).ext hx2)
  have Hu := Lib.hid ((hu.ext hx).ext hx2)
  have Hx := Lib.hid hx
  have Hx2 := Lib.hid hx2
  have Ha := Lib.hid (ha.ext hx2)
  have Hb := Lib.hid (hb.ext hx2)
  have Hv0 := Lib.hid hv0
  have Hs0 := Lib.hid hs0
  rw [hs0] at hv0
  have Hv1 := Lib.hid hv0
  clear hv hu hx hx2 hk hk' ha hb hv0 hs0
  by_cases hs : sameOk n m l l'
  · obtain ⟨nn, rfl, hn1, hn24, hln, hmem⟩ := hs.1.nat
    have H := Lib.hid (join_t hs)
    have Hs := Lib.hid hs
    have hmm := hs.2.2
    have hcat : Hid (remL nn (l ++ l') = l ++ l') := remL_id (fun x hx => by
      rcases List.mem_append.1 hx with h | h
      · exact hmem x h
      · have := hs.2.1.2.2 x h; omega)
    have hlen2 : Hid ((l ++ l').length ≤ 100) := by
      unfold Hid
      have := RhyOk.len hs.2.1
      rw [List.length_append]; omega
    clear hs hmem hmm
    subst hw0
    go_enter Try.func13, Try.ntmps13
    go_wp2_with (first | (go_at_call 28; refine (sameSize_c (nn : Int) m l l' _ _ _ Hv.out Hu.out).mono ?_; rintro e w1 ⟨b1, rfl, hb1, hx1⟩; obtain rfl := hb1.2 Hs.out; clear hb1))
    have Hw := Lib.hid (show Rows (w1.alloc (.cells #[.slice A k c, .slice A' k' c'] 25)) w1.heap.size 2 [.slice A k c, .slice A' k' c'] [l, l'] from rows2 w1 (Hv.out.ext hx1) (Hu.out.ext hx1))
    have Ra := Lib.hid (Ha.out.ext hx1)
    have Rb := Lib.hid (Hb.out.ext hx1)
    have Rr := Lib.hid (Hv1.out.ext hx1)
    have Rr0 := Lib.hid (Hv0.out.ext hx1)
    have hfl : Hid ([l, l'].flatten = l ++ l') := by simp [Hid]
    have hc1 := Ra.out.c0
    have hc2 := Ra.out.c1
    have hc3 := Rb.out.c1
    first
      | (go_region_held3 (fun w' => w'.cell? ⟨w.heap.size, 0, none⟩ = some (.int .i64 nn) ∧ w'.cell? ⟨w.heap.size, 1, none⟩ = some (.slice A k c) ∧ w'.cell? ⟨w.heap.size + 1, 1, none⟩ = some (.slice A' k' c'))
          (first
            | (go_keep; done)
            | with_reducible exact ⟨((((Ra.out.allocD _).ext hx2).ext hx3).other (by omega) |>.other (by omega)).c0, ((((Ra.out.allocD _).ext hx2).ext hx3).other (by omega) |>.other (by omega)).c1, ((((Rb.out.allocD _).ext hx2).ext hx3).other (by omega) |>.other (by omega)).c1⟩
            | with_reducible exact ⟨(Ra.out.allocD _).c0, (Ra.out.allocD _).c1, (Rb.out.allocD _).c1⟩
            | with_reducible exact ⟨((Ra.out.allocD _).ext hx2).c0, ((Ra.out.allocD _).ext hx2).c1, ((Rb.out.allocD _).ext hx2).c1⟩
            | with_reducible exact ⟨(((Ra.out.allocD _).ext hx2).ext hx3).c0, (((Ra.out.allocD _).ext hx2).ext hx3).c1, (((Rb.out.allocD _).ext hx2).ext hx3).c1⟩
            | (refine ⟨?_, ?_, ?_⟩ <;> (go_keep; done)))
          (first
            | (go_at_call 30; refine (slConcat_c _ 2 _ _ _ Hw.out.drew (by rw [hfl.out]; have := hlen2.out; omega) (by omega)).mono ?_; rintro e w2 ⟨v2, rfl, ho2, hx2⟩; rw [hfl.out] at ho2)
            | (go_at_call 29; refine (rhythmOf_c nn (l ++ l') _ _ ho2.ints hn1 (by omega) (by have := hlen2.out; omega)).mono ?_; rintro e w3 ⟨v3, rfl, ho3, hx3⟩; obtain ⟨Au, nu, cu, rfl⟩ := ho3.form; rw [hcat.out] at ho3; have hd0 := (((Rr.out.allocD _).ext hx2).ext hx3).c0; have hf0 := (((Rr.out.allocD _).ext hx2).ext hx3).f 0; have hd1 := ((((Rr.out.allocD _).ext hx2).ext hx3).set0 (m := (nn : Int))).c1; have hf1 := ((((Rr.out.allocD _).ext hx2).ext hx3).set0 (m := (nn : Int))).f 1)))
      | fail
    all_goals
      have hz1 : ((w.alloc (.cells #[.int .i64 (nn : Int), .slice A k c] 27)).alloc (.cells #[.int .i64 m, .slice A' k' c'] 27)).heap.size + 1 ≤ w2.heap.size := by
        have h1 := hx1.size
        have h2 := hx2.size
        simp only [World.size_alloc, World.size_drew] at h1 h2 ⊢
        omega
      have Hr := Lib.hid (ret_fin (n := (nn : Int)) (((Rr0.out.allocD _).ext hx2).ext hx3) ho3 hz1 (Hx2.out.tr (hx1.tr ((Ext.allocD w1 _).tr (hx2.tr hx3)))))
      have hcf0 := Hr.out.1.c0
      have hcf1 := Hr.out.1.c1
      have ho4 := Hr.out.2.1.base (B' := w.heap.size) (by simp; omega)
      have hx4 := Hx.out.tr Hr.out.2.2
      simp only [World.size_alloc] at hcf0 hcf1 ho4 hx4
      go_wp2
      exact bodyPost_ret (v := .tuple #[.agg #[.int .i64 nn, .slice Au nu cu], .bool true]) (by simp [results, Try.results13, hcf0, hcf1, go_sem]) rfl ⟨_, by rw [H.out.1, H.out.2.1], by rw [H.out.2.2]; exact ho4, hx4⟩
  · have H := Lib.hid (join_f hs)
    have Hs := Lib.hid hs
    clear hs
    subst hw0
    go_enter Try.func13, Try.ntmps13
    go_wp2_with (first | (go_at_call 28; refine (sameSize_c n m l l' _ _ _ Hv.out Hu.out).mono ?_; rintro e w1 ⟨b1, rfl, hb1, hx1⟩; obtain rfl := bool_f hb1 Hs.out; clear hb1; have hd0 := (Hv1.out.ext hx1).c0; have hf0 := (Hv1.out.ext hx1).f 0; have hd1 := ((Hv1.out.ext hx1).set0 (m := 0)).c1; have hf1 := ((Hv1.out.ext hx1).set0 (m := 0)).f 1; have Hr := Lib.hid (ret_fin (n := 0) (Hv0.out.ext hx1) (Own.nil _ _) (Nat.le_refl _) (Hx2.out.tr hx1))))
    have hcf0 := Hr.out.1.c0
    have hcf1 := Hr.out.1.c1
    have hx4 := Hx.out.tr Hr.out.2.2
    simp only [World.size_alloc] at hcf0 hcf1 hx4
    exact bodyPost_ret (v := .tuple #[.agg #[.int .i64 0, .slice none 0 0], .bool false]) (by simp [results, Try.results13, hcf0, hcf1, go_sem]) rfl ⟨_, by rw [H.out.1, H.out.2.1], by rw [H.out.2.2]; exact Own.nil _ _, hx4⟩
end Go.Proofs.Ytnbfcdanpplllaa
