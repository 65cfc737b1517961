/- Contracts: equals; the laws' rhythms. -/
import Derived.Test.YtjkgioimefagoaaRhy
import Derived.Test.YtjkgioimefagoaaFeq
namespace Go.Proofs.Ytjkgioimefagoaa
open Go.RowKit
set_option maxRecDepth 100000 in
theorem equals_c (n m : Int) (l l' : List Int) (v u : Value) (w : World) (hv : Ints w v l) (hu : Ints w u l') : Calls Try.prog 28 #[.agg #[.int .i64 n, v], .agg #[.int .i64 m, u]] w (RB (n = m ∧ l = l') w) := by
  obtain ⟨A, c, hve, _, _⟩ := hv.form0
  obtain ⟨A', c', hue, _, _⟩ := hu.form0
  obtain ⟨k, hk⟩ : ∃ k, k = l.length := ⟨_, rfl⟩
  obtain ⟨k', hk'⟩ : ∃ k', k' = l'.length := ⟨_, rfl⟩
  rw [← hk] at hve
  rw [← hk'] at hue
  subst hve
  subst hue
  have hx := two_boxes w (.cells #[.int .i64 n, .slice A k c] 25) (.cells #[.int .i64 m, .slice A' k' c'] 25)
  have ha := (RVar.new (T := 25) w n (.slice A k c)).ext (one_box _ (.cells #[.int .i64 m, .slice A' k' c'] 25))
  have hb : RVar ((w.alloc (.cells #[.int .i64 n, .slice A k c] 25)).alloc (.cells #[.int .i64 m, .slice A' k' c'] 25)) (w.heap.size + 1) m (.slice A' k' c') := by
    simpa only [World.size_alloc] using RVar.new (T := 25) (w.alloc (.cells #[.int .i64 n, .slice A k c] 25)) m (.slice A' k' c')
  have Hv := Lib.hid (hv.ext hx)
  have Hu := Lib.hid (hu.ext hx)
  have Hx := Lib.hid hx
  have Ha := Lib.hid ha
  have Hb := Lib.hid hb
  clear hv hu hx hk hk' ha hb
  have hc1 := Ha.out.c0
  have hc2 := Ha.out.c1
  have hc3 := Hb.out.c0
  have hc4 := Hb.out.c1
  by_cases hnm : n = m
  · have hb : ((n : Int) == m) = true := by simp [hnm]
    have Hnm := Lib.hid hnm
    clear hnm
    go_enter Try.func28, Try.ntmps28
    go_wp2_with (first | (go_at_call 46; refine (slEqual_c l l' _ _ _ Hv.out Hu.out).mono ?_; rintro e w2 ⟨b2, rfl, hb2, hx2⟩))
    go_ret
    exact ⟨_, rfl, by simp_all [Hnm.out], Ext.tr Hx.out hx2⟩
  · have hb : ((n : Int) == m) = false := by simpa using hnm
    have Hnm := Lib.hid hnm
    clear hnm
    go_enter Try.func28, Try.ntmps28
    go_wp2
    go_ret
    exact ⟨false, rfl, by simp [Hnm.out], Hx.out⟩
set_option maxRecDepth 100000 in
theorem lawRhythms_c (n m : Int) (l l' : List Int) (v u : Value) (w : World) (hv : Ints w v l) (hu : Ints w u l') : Calls Try.prog 17 #[.agg #[.int .i64 n, v], .agg #[.int .i64 m, u]] w (RB (n = m ∧ l = l') w) := by
  obtain ⟨A, c, hve, _, _⟩ := hv.form0
  obtain ⟨A', c', hue, _, _⟩ := hu.form0
  obtain ⟨k, hk⟩ : ∃ k, k = l.length := ⟨_, rfl⟩
  obtain ⟨k', hk'⟩ : ∃ k', k' = l'.length := ⟨_, rfl⟩
  rw [← hk] at hve
  rw [← hk'] at hue
  subst hve
  subst hue
  have hx := two_boxes w (.cells #[.int .i64 n, .slice A k c] 25) (.cells #[.int .i64 m, .slice A' k' c'] 25)
  have ha := (RVar.new (T := 25) w n (.slice A k c)).ext (one_box _ (.cells #[.int .i64 m, .slice A' k' c'] 25))
  have hb : RVar ((w.alloc (.cells #[.int .i64 n, .slice A k c] 25)).alloc (.cells #[.int .i64 m, .slice A' k' c'] 25)) (w.heap.size + 1) m (.slice A' k' c') := by
    simpa only [World.size_alloc] using RVar.new (T := 25) (w.alloc (.cells #[.int .i64 n, .slice A k c] 25)) m (.slice A' k' c')
  have Hv := Lib.hid (hv.ext hx)
  have Hu := Lib.hid (hu.ext hx)
  have Hx := Lib.hid hx
  have Ha := Lib.hid ha
  have Hb := Lib.hid hb
  clear hv hu hx hk hk' ha hb
  have hc1 := Ha.out.c0
  have hc2 := Ha.out.c1
  have hc3 := Hb.out.c0
  have hc4 := Hb.out.c1
  by_cases hnm : n = m
  · have hb : ((n : Int) == m) = true := by simp [hnm]
    have Hnm := Lib.hid hnm
    clear hnm
    go_enter Try.func17, Try.ntmps17
    go_wp2_with (first | (go_at_call 35; refine (lawSame_c l l' _ _ _ Hv.out Hu.out).mono ?_; rintro e w2 ⟨b2, rfl, hb2, hx2⟩))
    go_ret
    exact ⟨_, rfl, by simp_all [Hnm.out], Ext.tr Hx.out hx2⟩
  · have hb : ((n : Int) == m) = false := by simpa using hnm
    have Hnm := Lib.hid hnm
    clear hnm
    go_enter Try.func17, Try.ntmps17
    go_wp2
    go_ret
    exact ⟨false, rfl, by simp [Hnm.out], Hx.out⟩
end Go.Proofs.Ytjkgioimefagoaa
