/- Contracts: fitsMeter, l18Fit. -/
import Derived.Test.YtblkddjljncggaaFrok
import Derived.Test.YtblkddjljncggaaFmet
import Derived.Outline
import Derived.Deep.RegionWith
import Derived.Deep.RegionLaw
namespace Go.Proofs.Ytblkddjljncggaa
open Go.RowKit
def fitOk (n : Int) (l m : List Int) : Prop := RhyOk n l ∧ MetOk m ∧ n = prodL m
set_option maxHeartbeats 1000000 in
theorem fitsMeter_c (n : Int) (l m : List Int) (v u : Value) (w : World) (hv : Ints w v l) (hu : Ints w u m) : Calls Try.prog 53 #[.agg #[.int .i64 n, v], u] w (RB (fitOk n l m) w) := by
  obtain ⟨A, c, hve, _, _⟩ := hv.form0
  obtain ⟨k, hk⟩ : ∃ k, k = l.length := ⟨_, rfl⟩
  rw [← hk] at hve
  subst hve
  have hx0 := one_box w (.cells #[.int .i64 n, .slice A k c] 24)
  have hr := RVar.new (T := 24) w n (.slice A k c)
  have Hv := Lib.hid (hv.ext hx0)
  have Hu := Lib.hid (hu.ext hx0)
  have Hr := Lib.hid hr
  have Hx0 := Lib.hid hx0
  clear hv hu hk hr hx0
  by_cases hr : RhyOk n l
  · have Hro := Lib.hid hr
    by_cases hm : MetOk m
    · have Hmo := Lib.hid hm
      obtain ⟨b, hb⟩ := Int.eq_ofNat_of_zero_le (show 0 ≤ prodL m by have := hm.small.prod; omega)
      have Hb := Lib.hid hb
      have hc0 := Hr.out.c0
      have hc1 := Hr.out.c1
      have Hfit : Hid (fitOk n l m ↔ n = b) := ⟨fun h => by rw [← hb]; exact h.2.2, fun h => ⟨hr, hm, by rw [hb]; exact h⟩⟩
      clear hr hm hb
      go_enter Try.func53, Try.ntmps53
      go_wp2
      first
        | (go_region_held3 (fun w' => w'.cell? ⟨w.heap.size, 0, none⟩ = some (.int .i64 n) ∧ w'.cell? ⟨w.heap.size, 1, none⟩ = some (.slice A k c))
            (first
              | go_keep
              | exact ⟨(RVar.extD (RVar.extD Hr.out hx1) hx2).c0, (RVar.extD (RVar.extD Hr.out hx1) hx2).c1⟩
              | exact ⟨(RVar.ext (RVar.extD Hr.out hx1) hx2).c0, (RVar.ext (RVar.extD Hr.out hx1) hx2).c1⟩
              | exact ⟨(RVar.extD Hr.out hx1).c0, (RVar.extD Hr.out hx1).c1⟩)
            (first
              | (go_at_call 64; refine (rhythmOk_c n l _ _ Hv.out.drew).mono ?_; rintro e w1 ⟨b1, rfl, hb1, hx1⟩; obtain rfl := hb1.2 Hro.out; clear hb1)
              | (go_at_call 48; refine (meterOk_c m _ _ (Hu.out.ext (Ext.ofD hx1))).mono ?_; rintro e w2 ⟨b2, rfl, hb2, hx2⟩; obtain rfl := hb2.2 Hmo.out; clear hb2)
              | (go_at_call 50; refine (product_c m _ _ ((Hu.out.ext (Ext.ofD hx1)).ext hx2) Hmo.out.small).mono ?_; rintro e w3 ⟨rfl, rfl⟩; rw [Hb.out])))
        | fail
      all_goals
        go_wp2
        go_ret
        exact ⟨_, rfl, by rw [Hfit.out]; simp, Ext.tr Hx0.out (Ext.tr (Ext.ofD hx1) hx2)⟩
    · have Hf : Hid (¬ fitOk n l m) := fun h => hm h.2.1
      have Hmo := Lib.hid hm
      have hc0 := Hr.out.c0
      have hc1 := Hr.out.c1
      clear hr hm
      go_enter Try.func53, Try.ntmps53
      go_wp2
      first
        | (go_region_with (first | (go_at_call 64; refine (rhythmOk_c n l _ _ Hv.out.drew).mono ?_; rintro e w1 ⟨b1, rfl, hb1, hx1⟩; obtain rfl := hb1.2 Hro.out; clear hb1) | (go_at_call 48; refine (meterOk_c m _ _ (Hu.out.ext (Ext.ofD hx1))).mono ?_; rintro e w2 ⟨b2, rfl, hb2, hx2⟩; obtain rfl := bool_f hb2 Hmo.out; clear hb2)))
        | fail
      all_goals
        go_wp2
        go_ret
        exact RB.f Hf.out (Ext.tr Hx0.out (Ext.tr (Ext.ofD hx1) hx2))
  · have Hf : Hid (¬ fitOk n l m) := fun h => hr h.1
    have Hro := Lib.hid hr
    clear hr
    have hc0 := Hr.out.c0
    have hc1 := Hr.out.c1
    go_enter Try.func53, Try.ntmps53
    go_wp2
    first
      | (go_region_with (first | (go_at_call 64; refine (rhythmOk_c n l _ _ Hv.out.drew).mono ?_; rintro e w1 ⟨b, rfl, hb, hx1⟩; obtain rfl := bool_f hb Hro.out; clear hb)))
      | fail
    all_goals
      go_wp2
      go_ret
      exact RB.f Hf.out (Ext.tr Hx0.out (Ext.ofD hx1))
set_option maxHeartbeats 1000000 in
theorem l18Fit_c (n : Int) (l m : List Int) (v u : Value) (w : World) (hv : Ints w v l) (hu : Ints w u m) : Calls Try.prog 52 #[.agg #[.int .i64 n, v], u] w (RB (fitOk n l m) w) := by
  obtain ⟨A, c, hve, _, _⟩ := hv.form0
  obtain ⟨k, hk⟩ : ∃ k, k = l.length := ⟨_, rfl⟩
  rw [← hk] at hve
  subst hve
  have hx0 := one_box w (.cells #[.int .i64 n, .slice A k c] 24)
  have hr := RVar.new (T := 24) w n (.slice A k c)
  have Hv := Lib.hid (hv.ext hx0)
  have Hu := Lib.hid (hu.ext hx0)
  have Hr := Lib.hid hr
  have Hx0 := Lib.hid hx0
  clear hv hu hk hr hx0
  by_cases hr : RhyOk n l
  · have Hro := Lib.hid hr
    by_cases hm : MetOk m
    · have Hmo := Lib.hid hm
      obtain ⟨b, hb⟩ := Int.eq_ofNat_of_zero_le (show 0 ≤ prodL m by have := hm.small.prod; omega)
      have Hb := Lib.hid hb
      have hc0 := Hr.out.c0
      have hc1 := Hr.out.c1
      have Hfit : Hid (fitOk n l m ↔ n = b) := ⟨fun h => by rw [← hb]; exact h.2.2, fun h => ⟨hr, hm, by rw [hb]; exact h⟩⟩
      clear hr hm hb
      go_enter Try.func52, Try.ntmps52
      go_wp2
      first
        | (go_region_held3 (fun w' => w'.cell? ⟨w.heap.size, 0, none⟩ = some (.int .i64 n) ∧ w'.cell? ⟨w.heap.size, 1, none⟩ = some (.slice A k c))
            (first
              | go_keep
              | exact ⟨(RVar.extD Hr.out hx1).c0, (RVar.extD Hr.out hx1).c1⟩)
            (first
              | (go_at_call 63; refine (specRhythmOk_c n l _ _ Hv.out.drew).mono ?_; rintro e w1 ⟨b1, rfl, hb1, hx1⟩; obtain rfl := hb1.2 Hro.out; clear hb1)
              | (go_at_call 45; refine (specMeterOk_c m _ _ (Hu.out.ext (Ext.ofD hx1))).mono ?_; rintro e w2 ⟨b2, rfl, hb2, rfl⟩; obtain rfl := hb2.2 Hmo.out; clear hb2)
              | (go_at_call 46; refine (l18Size_c m _ _ (Hu.out.ext (Ext.ofD hx1)) Hmo.out.small).mono ?_; rintro e w3 ⟨rfl, rfl⟩; rw [Hb.out])))
        | fail
      all_goals
        go_wp2
        go_ret
        exact ⟨_, rfl, by rw [Hfit.out]; simp, Ext.tr Hx0.out (Ext.ofD hx1)⟩
    · have Hf : Hid (¬ fitOk n l m) := fun h => hm h.2.1
      have Hmo := Lib.hid hm
      have hc0 := Hr.out.c0
      have hc1 := Hr.out.c1
      clear hr hm
      go_enter Try.func52, Try.ntmps52
      go_wp2
      first
        | (go_region_with (first | (go_at_call 63; refine (specRhythmOk_c n l _ _ Hv.out.drew).mono ?_; rintro e w1 ⟨b1, rfl, hb1, hx1⟩; obtain rfl := hb1.2 Hro.out; clear hb1) | (go_at_call 45; refine (specMeterOk_c m _ _ (Hu.out.ext (Ext.ofD hx1))).mono ?_; rintro e w2 ⟨b2, rfl, hb2, rfl⟩; obtain rfl := bool_f hb2 Hmo.out; clear hb2)))
        | fail
      all_goals
        go_wp2
        go_ret
        exact RB.f Hf.out (Ext.tr Hx0.out (Ext.ofD hx1))
  · have Hf : Hid (¬ fitOk n l m) := fun h => hr h.1
    have Hro := Lib.hid hr
    clear hr
    have hc0 := Hr.out.c0
    have hc1 := Hr.out.c1
    go_enter Try.func52, Try.ntmps52
    go_wp2
    first
      | (go_region_with (first | (go_at_call 63; refine (specRhythmOk_c n l _ _ Hv.out.drew).mono ?_; rintro e w1 ⟨b, rfl, hb, hx1⟩; obtain rfl := bool_f hb Hro.out; clear hb)))
      | fail
    all_goals
      go_wp2
      go_ret
      exact RB.f Hf.out (Ext.tr Hx0.out (Ext.ofD hx1))
end Go.Proofs.Ytblkddjljncggaa
