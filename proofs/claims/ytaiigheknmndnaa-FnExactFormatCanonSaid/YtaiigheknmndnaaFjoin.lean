/- Contracts: sameSize, l05Two; JoinRhythms on both sides. -/
import Derived.Test.YtaiigheknmndnaaFrok
import Derived.Test.YtaiigheknmndnaaFcat
import Derived.Test.YtaiigheknmndnaaFrot
namespace Go.Proofs.Ytaiigheknmndnaa
open Go.RowKit
def sameOk (n m : Int) (l l' : List Int) : Prop := RhyOk n l ∧ RhyOk m l' ∧ n = m
instance (n m : Int) (l l' : List Int) : Decidable (sameOk n m l l') := by unfold sameOk; infer_instance
set_option maxRecDepth 100000 in
set_option maxHeartbeats 1000000 in
theorem sameSize_c (n m : Int) (l l' : List Int) (v u : Value) (w : World) (hv : Ints w v l) (hu : Ints w u l') : Calls Try.prog 78 #[.agg #[.int .i64 n, v], .agg #[.int .i64 m, u]] w (RB (sameOk n m l l') w) := by
  obtain ⟨A, c, hve, _, _⟩ := hv.form0
  obtain ⟨A', c', hue, _, _⟩ := hu.form0
  obtain ⟨k, hk⟩ : ∃ k, k = l.length := ⟨_, rfl⟩
  obtain ⟨k', hk'⟩ : ∃ k', k' = l'.length := ⟨_, rfl⟩
  rw [← hk] at hve
  rw [← hk'] at hue
  subst hve
  subst hue
  have hx := two_boxes w (.cells #[.int .i64 n, .slice A k c] 29) (.cells #[.int .i64 m, .slice A' k' c'] 29)
  have ha := (RVar.new (T := 29) w n (.slice A k c)).ext (one_box _ (.cells #[.int .i64 m, .slice A' k' c'] 29))
  have hb : RVar ((w.alloc (.cells #[.int .i64 n, .slice A k c] 29)).alloc (.cells #[.int .i64 m, .slice A' k' c'] 29)) (w.heap.size + 1) m (.slice A' k' c') := by
    simpa only [World.size_alloc] using RVar.new (T := 29) (w.alloc (.cells #[.int .i64 n, .slice A k c] 29)) m (.slice A' k' c')
  have Hv := Lib.hid (hv.ext hx)
  have Hu := Lib.hid (hu.ext hx)
  have Hx := Lib.hid hx
  have Ha := Lib.hid ha
  have Hb := Lib.hid hb
  clear hv hu hx hk hk' ha hb
  by_cases hr : RhyOk n l
  · have Hr := Lib.hid hr
    by_cases hr2 : RhyOk m l'
    · have Hr2 := Lib.hid hr2
      have Hs : Hid (sameOk n m l l' ↔ n = m) := ⟨fun h => h.2.2, fun h => ⟨hr, hr2, h⟩⟩
      clear hr hr2
      go_enter Try.func78, Try.ntmps78
      have tok : True := trivial
      go_wp2_with (first | (go_at_call 70; clear tok; refine (rhythmOk_c n l _ _ Hv.out).mono ?_; rintro e w1 ⟨b1, rfl, hb1, hx1⟩; obtain rfl := hb1.2 Hr.out; clear hb1; have hc1 := (Hb.out.ext hx1).c0; have hc2 := (Hb.out.ext hx1).c1))
      have tok : True := trivial
      go_wp2_with (first | (go_at_call 70; clear tok; refine (rhythmOk_c m l' _ _ (Hu.out.ext hx1)).mono ?_; rintro e w2 ⟨b2, rfl, hb2, hx2⟩; obtain rfl := hb2.2 Hr2.out; clear hb2; have hc3 := ((Ha.out.ext hx1).ext hx2).c0; have hc4 := ((Hb.out.ext hx1).ext hx2).c0))
      all_goals
        go_ret
        exact ⟨_, rfl, by rw [Hs.out]; first | simp | simp_all, Hx.out.tr (hx1.tr hx2)⟩
    · have Hf : Hid (¬ sameOk n m l l') := fun h => hr2 h.2.1
      have Hr2 := Lib.hid hr2
      clear hr hr2
      go_enter Try.func78, Try.ntmps78
      have tok : True := trivial
      go_wp2_with (first | (go_at_call 70; clear tok; refine (rhythmOk_c n l _ _ Hv.out).mono ?_; rintro e w1 ⟨b1, rfl, hb1, hx1⟩; obtain rfl := hb1.2 Hr.out; clear hb1; have hc1 := (Hb.out.ext hx1).c0; have hc2 := (Hb.out.ext hx1).c1))
      have tok : True := trivial
      go_wp2_with (first | (go_at_call 70; clear tok; refine (rhythmOk_c m l' _ _ (Hu.out.ext hx1)).mono ?_; rintro e w2 ⟨b2, rfl, hb2, hx2⟩; obtain rfl := bool_f hb2 Hr2.out; clear hb2))
      go_ret
      exact RB.f Hf.out (Hx.out.tr (hx1.tr hx2))
  · have Hf : Hid (¬ sameOk n m l l') := fun h => hr h.1
    have Hr := Lib.hid hr
    clear hr
    go_enter Try.func78, Try.ntmps78
    go_wp2_with (first | (go_at_call 70; refine (rhythmOk_c n l _ _ Hv.out).mono ?_; rintro e w1 ⟨b1, rfl, hb1, hx1⟩; obtain rfl := bool_f hb1 Hr.out; clear hb1))
    go_ret
    exact RB.f Hf.out (Hx.out.tr hx1)
set_option maxRecDepth 100000 in
set_option maxHeartbeats 1000000 in
theorem l05Two_c (n m : Int) (l l' : List Int) (v u : Value) (w : World) (hv : Ints w v l) (hu : Ints w u l') : Calls Try.prog 75 #[.agg #[.int .i64 n, v], .agg #[.int .i64 m, u]] w (RB (sameOk n m l l') w) := by
  obtain ⟨A, c, hve, _, _⟩ := hv.form0
  obtain ⟨A', c', hue, _, _⟩ := hu.form0
  obtain ⟨k, hk⟩ : ∃ k, k = l.length := ⟨_, rfl⟩
  obtain ⟨k', hk'⟩ : ∃ k', k' = l'.length := ⟨_, rfl⟩
  rw [← hk] at hve
  rw [← hk'] at hue
  subst hve
  subst hue
  have hx := two_boxes w (.cells #[.int .i64 n, .slice A k c] 29) (.cells #[.int .i64 m, .slice A' k' c'] 29)
  have ha := (RVar.new (T := 29) w n (.slice A k c)).ext (one_box _ (.cells #[.int .i64 m, .slice A' k' c'] 29))
  have hb : RVar ((w.alloc (.cells #[.int .i64 n, .slice A k c] 29)).alloc (.cells #[.int .i64 m, .slice A' k' c'] 29)) (w.heap.size + 1) m (.slice A' k' c') := by
    simpa only [World.size_alloc] using RVar.new (T := 29) (w.alloc (.cells #[.int .i64 n, .slice A k c] 29)) m (.slice A' k' c')
  have Hv := Lib.hid (hv.ext hx)
  have Hu := Lib.hid (hu.ext hx)
  have Hx := Lib.hid hx
  have Ha := Lib.hid ha
  have Hb := Lib.hid hb
  clear hv hu hx hk hk' ha hb
  by_cases hr : RhyOk n l
  · have Hr := Lib.hid hr
    by_cases hr2 : RhyOk m l'
    · have Hr2 := Lib.hid hr2
      have Hs : Hid (sameOk n m l l' ↔ n = m) := ⟨fun h => h.2.2, fun h => ⟨hr, hr2, h⟩⟩
      clear hr hr2
      go_enter Try.func75, Try.ntmps75
      have tok : True := trivial
      go_wp2_with (first | (go_at_call 66; clear tok; refine (specRhythmOk_c n l _ _ Hv.out).mono ?_; rintro e w1 ⟨b1, rfl, hb1, hx1⟩; obtain rfl := hb1.2 Hr.out; clear hb1; have hc1 := (Hb.out.ext hx1).c0; have hc2 := (Hb.out.ext hx1).c1))
      have tok : True := trivial
      go_wp2_with (first | (go_at_call 66; clear tok; refine (specRhythmOk_c m l' _ _ (Hu.out.ext hx1)).mono ?_; rintro e w2 ⟨b2, rfl, hb2, hx2⟩; obtain rfl := hb2.2 Hr2.out; clear hb2; have hc3 := ((Ha.out.ext hx1).ext hx2).c0; have hc4 := ((Hb.out.ext hx1).ext hx2).c0))
      all_goals
        go_ret
        exact ⟨_, rfl, by rw [Hs.out]; first | simp | simp_all, Hx.out.tr (hx1.tr hx2)⟩
    · have Hf : Hid (¬ sameOk n m l l') := fun h => hr2 h.2.1
      have Hr2 := Lib.hid hr2
      clear hr hr2
      go_enter Try.func75, Try.ntmps75
      have tok : True := trivial
      go_wp2_with (first | (go_at_call 66; clear tok; refine (specRhythmOk_c n l _ _ Hv.out).mono ?_; rintro e w1 ⟨b1, rfl, hb1, hx1⟩; obtain rfl := hb1.2 Hr.out; clear hb1; have hc1 := (Hb.out.ext hx1).c0; have hc2 := (Hb.out.ext hx1).c1))
      have tok : True := trivial
      go_wp2_with (first | (go_at_call 66; clear tok; refine (specRhythmOk_c m l' _ _ (Hu.out.ext hx1)).mono ?_; rintro e w2 ⟨b2, rfl, hb2, hx2⟩; obtain rfl := bool_f hb2 Hr2.out; clear hb2))
      go_ret
      exact RB.f Hf.out (Hx.out.tr (hx1.tr hx2))
  · have Hf : Hid (¬ sameOk n m l l') := fun h => hr h.1
    have Hr := Lib.hid hr
    clear hr
    go_enter Try.func75, Try.ntmps75
    go_wp2_with (first | (go_at_call 66; refine (specRhythmOk_c n l _ _ Hv.out).mono ?_; rintro e w1 ⟨b1, rfl, hb1, hx1⟩; obtain rfl := bool_f hb1 Hr.out; clear hb1))
    go_ret
    exact RB.f Hf.out (Hx.out.tr hx1)
/-- the pulses of two rhythms of one size -/
def joinB (n m : Int) (l l' : List Int) : Bool := decide (sameOk n m l l')
def joinN (n m : Int) (l l' : List Int) : Int := if sameOk n m l l' then n else 0
def joinL (n m : Int) (l l' : List Int) : List Int := if sameOk n m l l' then rhL n.toNat (l ++ l') else []
theorem join_t {n : Nat} {m : Int} {l l' : List Int} (h : sameOk n m l l') : joinB n m l l' = true ∧ joinN n m l l' = n ∧ joinL n m l l' = rhL n (l ++ l') := by
  unfold joinB joinN joinL
  rw [if_pos h, if_pos h]
  exact ⟨by simpa using h, rfl, by simp⟩
theorem join_f {n m : Int} {l l' : List Int} (h : ¬ sameOk n m l l') : joinB n m l l' = false ∧ joinN n m l l' = 0 ∧ joinL n m l l' = [] := by
  unfold joinB joinN joinL
  rw [if_neg h, if_neg h]
  exact ⟨by simpa using h, rfl, rfl⟩
theorem remL_id {n : Nat} {l : List Int} (h : ∀ x ∈ l, 0 ≤ x ∧ x < n) : remL n l = l := by
  unfold remL
  conv => rhs; rw [← List.map_id l]
  apply List.map_congr_left
  intro x hx
  have := h x hx
  simp only [id]
  exact Int.emod_eq_of_lt this.1 this.2
set_option maxRecDepth 100000 in
set_option maxHeartbeats 2000000 in
theorem specJoinRhythms_c (n m : Int) (l l' : List Int) (v u : Value) (w : World) (hv : Ints w v l) (hu : Ints w u l') : Calls Try.prog 105 #[.agg #[.int .i64 n, v], .agg #[.int .i64 m, u]] w (RRB (joinN n m l l') (joinL n m l l') (joinB n m l l') w) := by
  obtain ⟨A, c, hve, _, _⟩ := hv.form0
  obtain ⟨A', c', hue, _, _⟩ := hu.form0
  obtain ⟨k, hk⟩ : ∃ k, k = l.length := ⟨_, rfl⟩
  obtain ⟨k', hk'⟩ : ∃ k', k' = l'.length := ⟨_, rfl⟩
  rw [← hk] at hve
  rw [← hk'] at hue
  subst hve
  subst hue
  obtain ⟨w0, hw0⟩ : ∃ w0, w0 = (w.alloc (.cells #[.int .i64 n, .slice A k c] 29)).alloc (.cells #[.int .i64 m, .slice A' k' c'] 29) := ⟨_, rfl⟩
  have hs0 : w0.heap.size = w.heap.size + 1 + 1 := by rw [hw0]; simp
  have hx : Ext w w0 := by rw [hw0]; exact two_boxes w _ _
  have ha : RVar w0 w.heap.size n (.slice A k c) := by rw [hw0]; exact (RVar.new (T := 29) w n (.slice A k c)).ext (one_box _ _)
  have hb : RVar w0 (w.heap.size + 1) m (.slice A' k' c') := by
    rw [hw0]
    simpa only [World.size_alloc] using RVar.new (T := 29) (w.alloc (.cells #[.int .i64 n, .slice A k c] 29)) m (.slice A' k' c')
  have hx2 := one_box w0 (.cells #[.int .i64 0, .slice none 0 0] 29)
  have hv0 := RVar.new (T := 29) w0 0 (.slice none 0 0)
  have Hv := Lib.hid ((hv.ext hx).ext hx2)
  have Hu := Lib.hid ((hu.ext hx).ext hx2)
  have Hx := Lib.hid hx
  have Hx2 := Lib.hid hx2
  have Ha := Lib.hid (ha.ext hx2)
  have Hb := Lib.hid (hb.ext hx2)
  have Hv0 := Lib.hid hv0
  have Hs0 := Lib.hid hs0
  rw [hs0] at hv0
  have Hv1 := Lib.hid hv0
  clear hv hu hx hx2 hk hk' ha hb hv0 hs0
  by_cases hra : RhyOk n l
  · have Hra := Lib.hid hra
    by_cases hrb : RhyOk m l'
    · have Hrb := Lib.hid hrb
      by_cases hnm : n = m
      · have hs : sameOk n m l l' := ⟨hra, hrb, hnm⟩
        obtain ⟨nn, hnn, hn1, hn24, hln, hmem⟩ := hra.nat
        subst hnn
        have H := Lib.hid (join_t hs)
        have hbn : (((nn : Int)) != m) = false := by simp [hnm]
        have hlen2 : l.length + l'.length ≤ 100 := by
          have := RhyOk.len hrb
          omega
        clear hra hrb hnm hs hmem
        subst hw0
        go_enter Try.func105, Try.ntmps105
        have tok : True := trivial
        go_wp2_with (first | (go_at_call 66; clear tok; refine (specRhythmOk_c (nn : Int) l _ _ Hv.out).mono ?_; rintro e w1 ⟨b1, rfl, hb1, hx1⟩; obtain rfl := hb1.2 Hra.out; clear hb1; have hc1 := (Hb.out.ext hx1).c0; have hc2 := (Hb.out.ext hx1).c1))
        have tok : True := trivial
        go_wp2_with (first | (go_at_call 66; clear tok; refine (specRhythmOk_c m l' _ _ (Hu.out.ext hx1)).mono ?_; rintro e w2 ⟨b2, rfl, hb2, hx2⟩; obtain rfl := hb2.2 Hrb.out; clear hb2; have hc3 := ((Ha.out.ext hx1).ext hx2).c0; have hc4 := ((Hb.out.ext hx1).ext hx2).c0))
        have Ra := Lib.hid ((Ha.out.ext hx1).ext hx2)
        have Rb := Lib.hid ((Hb.out.ext hx1).ext hx2)
        have Rr := Lib.hid ((Hv1.out.ext hx1).ext hx2)
        have Rr0 := Lib.hid ((Hv0.out.ext hx1).ext hx2)
        have Sa := Lib.hid ((Hv.out.ext hx1).ext hx2)
        have Sb := Lib.hid ((Hu.out.ext hx1).ext hx2)
        have hown0 : Hid (Own (w2.alloc (.cells #[] 3)).drew w2.heap.size (.slice (some ⟨w2.heap.size, 0, none⟩) 0 0) []) := Own.drew (Own.empty (Nat.le_refl _))
        have hne1 : w.heap.size ≠ w.heap.size + 1 + 1 := by omega
        have hne2 : w.heap.size + 1 ≠ w.heap.size + 1 + 1 := by omega
        have hc5 := Ra.out.c0
        have hc6 := Ra.out.c1
        have hc7 := Rb.out.c1
        clear hc1 hc2 hc3 hc4
        first
          | (go_region_held3 (fun w' => w'.cell? ⟨w.heap.size, 0, none⟩ = some (.int .i64 nn) ∧ w'.cell? ⟨w.heap.size, 1, none⟩ = some (.slice A k c) ∧ w'.cell? ⟨w.heap.size + 1, 1, none⟩ = some (.slice A' k' c'))
              (first
                | with_reducible exact ⟨(((Ra.out.ext (Ext.tr (((Ext.allocD w2 (.cells #[] 3)).trans hb3).trans hb4) hx5)).other hne1).other hne1).c0, (((Ra.out.ext (Ext.tr (((Ext.allocD w2 (.cells #[] 3)).trans hb3).trans hb4) hx5)).other hne1).other hne1).c1, (((Rb.out.ext (Ext.tr (((Ext.allocD w2 (.cells #[] 3)).trans hb3).trans hb4) hx5)).other hne2).other hne2).c1⟩
                | (go_keep; done)
                | with_reducible exact ⟨(Ra.out.ext (Ext.tr (((Ext.allocD w2 (.cells #[] 3)).trans hb3).trans hb4) hx5)).c0, (Ra.out.ext (Ext.tr (((Ext.allocD w2 (.cells #[] 3)).trans hb3).trans hb4) hx5)).c1, (Rb.out.ext (Ext.tr (((Ext.allocD w2 (.cells #[] 3)).trans hb3).trans hb4) hx5)).c1⟩
                | with_reducible exact ⟨(Ra.out.ext (((Ext.allocD w2 (.cells #[] 3)).trans hb3).trans hb4)).c0, (Ra.out.ext (((Ext.allocD w2 (.cells #[] 3)).trans hb3).trans hb4)).c1, (Rb.out.ext (((Ext.allocD w2 (.cells #[] 3)).trans hb3).trans hb4)).c1⟩
                | with_reducible exact ⟨(Ra.out.ext ((Ext.allocD w2 (.cells #[] 3)).trans hb3)).c0, (Ra.out.ext ((Ext.allocD w2 (.cells #[] 3)).trans hb3)).c1, (Rb.out.ext ((Ext.allocD w2 (.cells #[] 3)).trans hb3)).c1⟩
                | with_reducible exact ⟨(Ra.out.ext (Ext.allocD w2 (.cells #[] 3))).c0, (Ra.out.ext (Ext.allocD w2 (.cells #[] 3))).c1, (Rb.out.ext (Ext.allocD w2 (.cells #[] 3))).c1⟩
                | (refine ⟨?_, ?_, ?_⟩ <;> (go_keep; done)))
              (first
                | (refine step_appendL rfl (.tmp 24) (.tmp 26) rfl rfl rfl hown0.out (Sa.out.ext (Ext.allocD w2 (.cells #[] 3))) (by rw [List.length_nil]; omega) (Ext.allocD w2 (.cells #[] 3)).size ?_; intro v3 w3 ho3 hg3 hb3 hat3; rw [List.nil_append] at ho3; obtain ⟨A3, n3, c3, rfl⟩ := ho3.form)
                | (refine step_appendL rfl (.tmp 27) (.tmp 29) rfl rfl rfl ho3 (Sb.out.ext ((Ext.allocD w2 (.cells #[] 3)).trans hb3)) (by omega) ((Ext.allocD w2 (.cells #[] 3)).trans hb3).size ?_; intro v4 w4 ho4 hg4 hb4 hat4; obtain ⟨A4, n4, c4, rfl⟩ := ho4.form)
                | (go_at_call 61; refine (l02Of_c nn (l ++ l') _ _ ho4.ints (by omega)).mono ?_; rintro e w5 ⟨v5, rfl, ho5, hx5⟩; obtain ⟨Au, nu, cu, rfl⟩ := ho5.form; have hd0 := (Rr.out.ext (Ext.tr (((Ext.allocD w2 (.cells #[] 3)).trans hb3).trans hb4) hx5)).c0; have hf0 := (Rr.out.ext (Ext.tr (((Ext.allocD w2 (.cells #[] 3)).trans hb3).trans hb4) hx5)).f 0; have hd1 := ((Rr.out.ext (Ext.tr (((Ext.allocD w2 (.cells #[] 3)).trans hb3).trans hb4) hx5)).set0 (m := (nn : Int))).c1; have hf1 := ((Rr.out.ext (Ext.tr (((Ext.allocD w2 (.cells #[] 3)).trans hb3).trans hb4) hx5)).set0 (m := (nn : Int))).f 1)))
          | fail
        all_goals
          have hz1 : ((w.alloc (.cells #[.int .i64 (nn : Int), .slice A k c] 29)).alloc (.cells #[.int .i64 m, .slice A' k' c'] 29)).heap.size + 1 ≤ w4.heap.size := by
            have h1 := hx1.size
            have h2 := hx2.size
            have h3 := (((Ext.allocD w2 (.cells #[] 3)).trans hb3).trans hb4).size
            simp only [World.size_alloc] at h1 h2 h3 ⊢
            omega
          have Hr := Lib.hid (ret_fin (n := (nn : Int)) (Rr0.out.ext (Ext.tr (((Ext.allocD w2 (.cells #[] 3)).trans hb3).trans hb4) hx5)) ho5 hz1 (Hx2.out.tr (hx1.tr (hx2.tr (Ext.tr (((Ext.allocD w2 (.cells #[] 3)).trans hb3).trans hb4) hx5)))))
          have hcf0 := Hr.out.1.c0
          have hcf1 := Hr.out.1.c1
          have ho6 := Hr.out.2.1.base (B' := w.heap.size) (by simp; omega)
          have hx6 := Hx.out.tr Hr.out.2.2
          simp only [World.size_alloc] at hcf0 hcf1 ho6 hx6
          go_wp2
          exact bodyPost_ret (v := .tuple #[.agg #[.int .i64 nn, .slice Au nu cu], .bool true]) (by simp [results, Try.results105, hcf0, hcf1, go_sem]) rfl ⟨_, by rw [H.out.1, H.out.2.1], by rw [H.out.2.2]; exact ho6, hx6⟩
      · have H := Lib.hid (join_f (n := n) (m := m) (l := l) (l' := l') (fun h => hnm h.2.2))
        have hbn : (n != m) = true := by rw [bne_iff_ne]; exact hnm
        clear hra hrb hnm
        subst hw0
        go_enter Try.func105, Try.ntmps105
        have tok : True := trivial
        go_wp2_with (first | (go_at_call 66; clear tok; refine (specRhythmOk_c n l _ _ Hv.out).mono ?_; rintro e w1 ⟨b1, rfl, hb1, hx1⟩; obtain rfl := hb1.2 Hra.out; clear hb1; have hc1 := (Hb.out.ext hx1).c0; have hc2 := (Hb.out.ext hx1).c1))
        have tok : True := trivial
        go_wp2_with (first | (go_at_call 66; clear tok; refine (specRhythmOk_c m l' _ _ (Hu.out.ext hx1)).mono ?_; rintro e w2 ⟨b2, rfl, hb2, hx2⟩; obtain rfl := hb2.2 Hrb.out; clear hb2; have hc3 := ((Ha.out.ext hx1).ext hx2).c0; have hc4 := ((Hb.out.ext hx1).ext hx2).c0; have hd0 := (Hv1.out.ext (hx1.tr hx2)).c0; have hf0 := (Hv1.out.ext (hx1.tr hx2)).f 0; have hd1 := ((Hv1.out.ext (hx1.tr hx2)).set0 (m := 0)).c1; have hf1 := ((Hv1.out.ext (hx1.tr hx2)).set0 (m := 0)).f 1; have Hr := Lib.hid (ret_fin (n := 0) (Hv0.out.ext (hx1.tr hx2)) (Own.nil _ _) (Nat.le_refl _) (Hx2.out.tr (hx1.tr hx2)))))
        have hcf0 := Hr.out.1.c0
        have hcf1 := Hr.out.1.c1
        have hx4 := Hx.out.tr Hr.out.2.2
        simp only [World.size_alloc] at hcf0 hcf1 hx4
        exact bodyPost_ret (v := .tuple #[.agg #[.int .i64 0, .slice none 0 0], .bool false]) (by simp [results, Try.results105, hcf0, hcf1, go_sem]) rfl ⟨_, by rw [H.out.1, H.out.2.1], by rw [H.out.2.2]; exact Own.nil _ _, hx4⟩
    · have H := Lib.hid (join_f (n := n) (m := m) (l := l) (l' := l') (fun h => hrb h.2.1))
      have Hrb := Lib.hid hrb
      clear hra hrb
      subst hw0
      go_enter Try.func105, Try.ntmps105
      have tok : True := trivial
      go_wp2_with (first | (go_at_call 66; clear tok; refine (specRhythmOk_c n l _ _ Hv.out).mono ?_; rintro e w1 ⟨b1, rfl, hb1, hx1⟩; obtain rfl := hb1.2 Hra.out; clear hb1; have hc1 := (Hb.out.ext hx1).c0; have hc2 := (Hb.out.ext hx1).c1))
      have tok : True := trivial
      go_wp2_with (first | (go_at_call 66; clear tok; refine (specRhythmOk_c m l' _ _ (Hu.out.ext hx1)).mono ?_; rintro e w2 ⟨b2, rfl, hb2, hx2⟩; obtain rfl := bool_f hb2 Hrb.out; clear hb2; have hd0 := (Hv1.out.ext (hx1.tr hx2)).c0; have hf0 := (Hv1.out.ext (hx1.tr hx2)).f 0; have hd1 := ((Hv1.out.ext (hx1.tr hx2)).set0 (m := 0)).c1; have hf1 := ((Hv1.out.ext (hx1.tr hx2)).set0 (m := 0)).f 1; have Hr := Lib.hid (ret_fin (n := 0) (Hv0.out.ext (hx1.tr hx2)) (Own.nil _ _) (Nat.le_refl _) (Hx2.out.tr (hx1.tr hx2)))))
      have hcf0 := Hr.out.1.c0
      have hcf1 := Hr.out.1.c1
      have hx4 := Hx.out.tr Hr.out.2.2
      simp only [World.size_alloc] at hcf0 hcf1 hx4
      exact bodyPost_ret (v := .tuple #[.agg #[.int .i64 0, .slice none 0 0], .bool false]) (by simp [results, Try.results105, hcf0, hcf1, go_sem]) rfl ⟨_, by rw [H.out.1, H.out.2.1], by rw [H.out.2.2]; exact Own.nil _ _, hx4⟩
  · have H := Lib.hid (join_f (n := n) (m := m) (l := l) (l' := l') (fun h => hra h.1))
    have Hra := Lib.hid hra
    clear hra
    subst hw0
    go_enter Try.func105, Try.ntmps105
    go_wp2_with (first | (go_at_call 66; refine (specRhythmOk_c n l _ _ Hv.out).mono ?_; rintro e w1 ⟨b1, rfl, hb1, hx1⟩; obtain rfl := bool_f hb1 Hra.out; clear hb1; have hd0 := (Hv1.out.ext hx1).c0; have hf0 := (Hv1.out.ext hx1).f 0; have hd1 := ((Hv1.out.ext hx1).set0 (m := 0)).c1; have hf1 := ((Hv1.out.ext hx1).set0 (m := 0)).f 1; have Hr := Lib.hid (ret_fin (n := 0) (Hv0.out.ext hx1) (Own.nil _ _) (Nat.le_refl _) (Hx2.out.tr hx1))))
    have hcf0 := Hr.out.1.c0
    have hcf1 := Hr.out.1.c1
    have hx4 := Hx.out.tr Hr.out.2.2
    simp only [World.size_alloc] at hcf0 hcf1 hx4
    exact bodyPost_ret (v := .tuple #[.agg #[.int .i64 0, .slice none 0 0], .bool false]) (by simp [results, Try.results105, hcf0, hcf1, go_sem]) rfl ⟨_, by rw [H.out.1, H.out.2.1], by rw [H.out.2.2]; exact Own.nil _ _, hx4⟩
end Go.Proofs.Ytaiigheknmndnaa
