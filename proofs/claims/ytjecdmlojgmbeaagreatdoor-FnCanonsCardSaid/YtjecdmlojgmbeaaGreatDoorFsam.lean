/- Contracts: sameSize, l05Two. -/
import Derived.Test.YtjecdmlojgmbeaaGreatDoorFrok
namespace Go.Proofs.YtjecdmlojgmbeaaGreatDoor
open Go.RowKit
def sameOk (n m : Int) (l l' : List Int) : Prop := RhyOk n l ∧ RhyOk m l' ∧ n = m
instance (n m : Int) (l l' : List Int) : Decidable (sameOk n m l l') := by unfold sameOk; infer_instance
set_option maxRecDepth 100000 in
set_option maxHeartbeats 1000000 in
theorem sameSize_c (n m : Int) (l l' : List Int) (v u : Value) (w : World) (hv : Ints w v l) (hu : Ints w u l') : Calls Tryz.prog 27 #[.agg #[.int .i64 n, v], .agg #[.int .i64 m, u]] w (RB (sameOk n m l l') w) := by
  obtain ⟨A, c, hve, _, _⟩ := hv.form0
  obtain ⟨A', c', hue, _, _⟩ := hu.form0
  obtain ⟨k, hk⟩ : ∃ k, k = l.length := ⟨_, rfl⟩
  obtain ⟨k', hk'⟩ : ∃ k', k' = l'.length := ⟨_, rfl⟩
  rw [← hk] at hve
  rw [← hk'] at hue
  subst hve
  subst hue
  have hx := two_boxes w (.cells #[.int .i64 n, .slice A k c] 25) (.cells #[.int .i64 m, .slice A' k' c'] 25)
  have ha := (RVar.new (T := 25) w n (.slice A k c)).ext (one_box _ (.cells #[.int .i64 m, .slice A' k' c'] 25))
  have hb : RVar ((w.alloc (.cells #[.int .i64 n, .slice A k c] 25)).alloc (.cells #[.int .i64 m, .slice A' k' c'] 25)) (w.heap.size + 1) m (.slice A' k' c') := by
    simpa only [World.size_alloc] using RVar.new (T := 25) (w.alloc (.cells #[.int .i64 n, .slice A k c] 25)) m (.slice A' k' c')
  have Hv := Lib.hid (hv.ext hx)
  have Hu := Lib.hid (hu.ext hx)
  have Hx := Lib.hid hx
  have Ha := Lib.hid ha
  have Hb := Lib.hid hb
  clear hv hu hx hk hk' ha hb
  by_cases hr : RhyOk n l
  · have Hr := Lib.hid hr
    by_cases hr2 : RhyOk m l'
    · have Hr2 := Lib.hid hr2
      have Hs : Hid (sameOk n m l l' ↔ n = m) := ⟨fun h => h.2.2, fun h => ⟨hr, hr2, h⟩⟩
      clear hr hr2
      go_enter Tryz.func27, Tryz.ntmps27
      have tok : True := trivial
      go_wp2_with (first | (go_at_call 31; clear tok; refine (rhythmOk_c n l _ _ Hv.out).mono ?_; rintro e w1 ⟨b1, rfl, hb1, hx1⟩; obtain rfl := hb1.2 Hr.out; clear hb1; have hc1 := (Hb.out.ext hx1).c0; have hc2 := (Hb.out.ext hx1).c1))
      have tok : True := trivial
      go_wp2_with (first | (go_at_call 31; clear tok; refine (rhythmOk_c m l' _ _ (Hu.out.ext hx1)).mono ?_; rintro e w2 ⟨b2, rfl, hb2, hx2⟩; obtain rfl := hb2.2 Hr2.out; clear hb2; have hc3 := ((Ha.out.ext hx1).ext hx2).c0; have hc4 := ((Hb.out.ext hx1).ext hx2).c0))
      all_goals
        go_ret
        exact ⟨_, rfl, by rw [Hs.out]; first | simp | simp_all, Hx.out.tr (hx1.tr hx2)⟩
    · have Hf : Hid (¬ sameOk n m l l') := fun h => hr2 h.2.1
      have Hr2 := Lib.hid hr2
      clear hr hr2
      go_enter Tryz.func27, Tryz.ntmps27
      have tok : True := trivial
      go_wp2_with (first | (go_at_call 31; clear tok; refine (rhythmOk_c n l _ _ Hv.out).mono ?_; rintro e w1 ⟨b1, rfl, hb1, hx1⟩; obtain rfl := hb1.2 Hr.out; clear hb1; have hc1 := (Hb.out.ext hx1).c0; have hc2 := (Hb.out.ext hx1).c1))
      have tok : True := trivial
      go_wp2_with (first | (go_at_call 31; clear tok; refine (rhythmOk_c m l' _ _ (Hu.out.ext hx1)).mono ?_; rintro e w2 ⟨b2, rfl, hb2, hx2⟩; obtain rfl := bool_f hb2 Hr2.out; clear hb2))
      go_ret
      exact RB.f Hf.out (Hx.out.tr (hx1.tr hx2))
  · have Hf : Hid (¬ sameOk n m l l') := fun h => hr h.1
    have Hr := Lib.hid hr
    clear hr
    go_enter Tryz.func27, Tryz.ntmps27
    go_wp2_with (first | (go_at_call 31; refine (rhythmOk_c n l _ _ Hv.out).mono ?_; rintro e w1 ⟨b1, rfl, hb1, hx1⟩; obtain rfl := bool_f hb1 Hr.out; clear hb1))
    go_ret
    exact RB.f Hf.out (Hx.out.tr hx1)
set_option maxRecDepth 100000 in
set_option maxHeartbeats 1000000 in
theorem l05Two_c (n m : Int) (l l' : List Int) (v u : Value) (w : World) (hv : Ints w v l) (hu : Ints w u l') : Calls Tryz.prog 72 #[.agg #[.int .i64 n, v], .agg #[.int .i64 m, u]] w (RB (sameOk n m l l') w) := by
  obtain ⟨A, c, hve, _, _⟩ := hv.form0
  obtain ⟨A', c', hue, _, _⟩ := hu.form0
  obtain ⟨k, hk⟩ : ∃ k, k = l.length := ⟨_, rfl⟩
  obtain ⟨k', hk'⟩ : ∃ k', k' = l'.length := ⟨_, rfl⟩
  rw [← hk] at hve
  rw [← hk'] at hue
  subst hve
  subst hue
  have hx := two_boxes w (.cells #[.int .i64 n, .slice A k c] 25) (.cells #[.int .i64 m, .slice A' k' c'] 25)
  have ha := (RVar.new (T := 25) w n (.slice A k c)).ext (one_box _ (.cells #[.int .i64 m, .slice A' k' c'] 25))
  have hb : RVar ((w.alloc (.cells #[.int .i64 n, .slice A k c] 25)).alloc (.cells #[.int .i64 m, .slice A' k' c'] 25)) (w.heap.size + 1) m (.slice A' k' c') := by
    simpa only [World.size_alloc] using RVar.new (T := 25) (w.alloc (.cells #[.int .i64 n, .slice A k c] 25)) m (.slice A' k' c')
  have Hv := Lib.hid (hv.ext hx)
  have Hu := Lib.hid (hu.ext hx)
  have Hx := Lib.hid hx
  have Ha := Lib.hid ha
  have Hb := Lib.hid hb
  clear hv hu hx hk hk' ha hb
  by_cases hr : RhyOk n l
  · have Hr := Lib.hid hr
    by_cases hr2 : RhyOk m l'
    · have Hr2 := Lib.hid hr2
      have Hs : Hid (sameOk n m l l' ↔ n = m) := ⟨fun h => h.2.2, fun h => ⟨hr, hr2, h⟩⟩
      clear hr hr2
      go_enter Tryz.func72, Tryz.ntmps72
      have tok : True := trivial
      go_wp2_with (first | (go_at_call 50; clear tok; refine (specRhythmOk_c n l _ _ Hv.out).mono ?_; rintro e w1 ⟨b1, rfl, hb1, hx1⟩; obtain rfl := hb1.2 Hr.out; clear hb1; have hc1 := (Hb.out.ext hx1).c0; have hc2 := (Hb.out.ext hx1).c1))
      have tok : True := trivial
      go_wp2_with (first | (go_at_call 50; clear tok; refine (specRhythmOk_c m l' _ _ (Hu.out.ext hx1)).mono ?_; rintro e w2 ⟨b2, rfl, hb2, hx2⟩; obtain rfl := hb2.2 Hr2.out; clear hb2; have hc3 := ((Ha.out.ext hx1).ext hx2).c0; have hc4 := ((Hb.out.ext hx1).ext hx2).c0))
      all_goals
        go_ret
        exact ⟨_, rfl, by rw [Hs.out]; first | simp | simp_all, Hx.out.tr (hx1.tr hx2)⟩
    · have Hf : Hid (¬ sameOk n m l l') := fun h => hr2 h.2.1
      have Hr2 := Lib.hid hr2
      clear hr hr2
      go_enter Tryz.func72, Tryz.ntmps72
      have tok : True := trivial
      go_wp2_with (first | (go_at_call 50; clear tok; refine (specRhythmOk_c n l _ _ Hv.out).mono ?_; rintro e w1 ⟨b1, rfl, hb1, hx1⟩; obtain rfl := hb1.2 Hr.out; clear hb1; have hc1 := (Hb.out.ext hx1).c0; have hc2 := (Hb.out.ext hx1).c1))
      have tok : True := trivial
      go_wp2_with (first | (go_at_call 50; clear tok; refine (specRhythmOk_c m l' _ _ (Hu.out.ext hx1)).mono ?_; rintro e w2 ⟨b2, rfl, hb2, hx2⟩; obtain rfl := bool_f hb2 Hr2.out; clear hb2))
      go_ret
      exact RB.f Hf.out (Hx.out.tr (hx1.tr hx2))
  · have Hf : Hid (¬ sameOk n m l l') := fun h => hr h.1
    have Hr := Lib.hid hr
    clear hr
    go_enter Tryz.func72, Tryz.ntmps72
    go_wp2_with (first | (go_at_call 50; refine (specRhythmOk_c n l _ _ Hv.out).mono ?_; rintro e w1 ⟨b1, rfl, hb1, hx1⟩; obtain rfl := bool_f hb1 Hr.out; clear hb1))
    go_ret
    exact RB.f Hf.out (Hx.out.tr hx1)
end Go.Proofs.YtjecdmlojgmbeaaGreatDoor
