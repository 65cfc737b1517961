/- Contracts: ScoreIn on both sides. -/
import Derived.Test.YtblkddjljncggaaFfit
import Derived.Test.YtblkddjljncggaaFwei
namespace Go.Proofs.Ytblkddjljncggaa
open Go.RowKit
/-- the weight of a pulse -/
def wtAt (m : List Int) (x : Int) : Int := (wc m m.length x.toNat : Nat)
def scoL (m l : List Int) : Int := (l.map (wtAt m)).sum
theorem scoL_take {m l : List Int} {k : Nat} {x : Int} (h : l[k]? = some x) : scoL m (l.take (k + 1)) = scoL m (l.take k) + wtAt m x := by
  unfold scoL; rw [take_succ h]; simp [List.sum_append]
instance (n : Int) (l m : List Int) : Decidable (fitOk n l m) := by unfold fitOk; infer_instance
def scoI (n : Int) (l m : List Int) : Int := if fitOk n l m then scoL m l else -1
theorem scoI_t {n : Int} {l m : List Int} (h : fitOk n l m) : scoI n l m = scoL m l := by unfold scoI; rw [if_pos h]
theorem scoI_f {n : Int} {l m : List Int} (h : ¬ fitOk n l m) : scoI n l m = -1 := by unfold scoI; rw [if_neg h]
theorem wtAt_bd {m : List Int} (h : MetOk m) (x : Int) : 0 ≤ wtAt m x ∧ wtAt m x ≤ 5 := by
  have := wc_le m m.length x.toNat
  have := h.1
  unfold wtAt
  omega
theorem wtI_at {m : List Int} (h : MetOk m) {b : Nat} (hb : prodL m = b) {x : Int} (hx : 0 ≤ x ∧ x < b) : (wtI m)[x.toNat]? = some (wtAt m x) := by
  rw [wtI_t h hb, wtN_get (by omega)]; rfl
theorem scoL_bd {m : List Int} (h : MetOk m) (l : List Int) : 0 ≤ scoL m l ∧ scoL m l ≤ 5 * l.length := by
  unfold scoL
  induction l with
  | nil => simp
  | cons x t ih =>
    have := wtAt_bd h x
    rw [List.map_cons, List.sum_cons, List.length_cons]
    omega
set_option maxHeartbeats 1000000 in
theorem scoreIn_c (n : Int) (l m : List Int) (v u : Value) (w : World) (hv : Ints w v l) (hu : Ints w u m) : Calls Try.prog 33 #[.agg #[.int .i64 n, v], u] w (RI (scoI n l m) w) := by
  obtain ⟨A, c, hve, _, _⟩ := hv.form0
  obtain ⟨k, hk⟩ : ∃ k, k = l.length := ⟨_, rfl⟩
  rw [← hk] at hve
  subst hve
  have hx0 := one_box w (.cells #[.int .i64 n, .slice A k c] 24)
  have Hv := Lib.hid (hv.ext hx0)
  have Hu := Lib.hid (hu.ext hx0)
  have Hr := Lib.hid (RVar.new (T := 24) w n (.slice A k c))
  have Hk := Lib.hid hk
  have Hx0 := Lib.hid hx0
  clear hv hu hx0
  by_cases hf : fitOk n l m
  · have H := Lib.hid (scoI_t hf)
    have hl24 := hf.1.len
    rw [← hk] at hl24
    obtain ⟨b, hb⟩ := Int.eq_ofNat_of_zero_le (show 0 ≤ prodL m by have := hf.2.1.small.prod; omega)
    have hnb : n = b := by rw [← hb]; exact hf.2.2
    have hb24 : b ≤ 24 := by have := hf.1.1; omega
    have Hf := Lib.hid hf
    have Hb := Lib.hid hb
    have Hnb := Lib.hid hnb
    clear hk hf hb hnb
    go_enter Try.func33, Try.ntmps33
    go_wp2_with (first | (go_at_call 53; refine (fitsMeter_c n l m _ _ _ Hv.out Hu.out).mono ?_; rintro e w1 ⟨b1, rfl, hb1, hx1⟩; obtain rfl := hb1.2 Hf.out; clear hb1; have hc0 := (Hr.out.ext hx1).c0; have hc1 := (Hr.out.ext hx1).c1))
    clear hc0 hc1
    go_loopw [5, 15] (fun s i wr => ∃ (j : Nat) (z : Int), j ≤ k ∧ 0 ≤ z ∧ z ≤ 5 * j ∧ i = .int .i64 j ∧ s = .int .i64 z ∧ Hid (z = scoL m (l.take j)) ∧ Ext w1 wr) (fun _ i _ => k - (intOf i).toNat)
    case atStart => exact ⟨0, 0, Nat.zero_le _, by omega, by omega, rfl, rfl, rfl, Below.refl _ _⟩
    case round =>
      obtain ⟨j, z, hj, hz0, hz1, rfl, rfl, hz, hx⟩ := hrel
      by_cases hjk : j < k
      · obtain ⟨ad, c', hA, _, _⟩ := Hv.out.form (by rw [← Hk.out]; omega)
        rw [← Hk.out] at hA
        obtain ⟨rfl, rfl⟩ : A = some ad ∧ c = c' := by simpa using hA
        obtain ⟨x, hx1'⟩ : ∃ x, l[j]? = some x := ⟨_, List.getElem?_eq_getElem (by rw [← Hk.out]; omega)⟩
        have hc := ((Hv.out.ext hx1).ext hx).cell hx1'
        have hxr := Hf.out.1.2.2 x (List.mem_of_getElem? hx1')
        rw [Hnb.out] at hxr
        obtain ⟨p, rfl⟩ := Int.eq_ofNat_of_zero_le hxr.1
        have hpb : p < b := by omega
        have hwt := wtAt_bd Hf.out.2.1 (p : Int)
        have Hat := Lib.hid (wtI_at Hf.out.2.1 Hb.out hxr)
        have Hn : Hid (z + wtAt m (p : Int) = scoL m (l.take (j + 1))) := by unfold Hid; rw [scoL_take hx1', hz.out]
        have hwlen : Hid ((wtI m).length = b) := by unfold Hid; rw [wtI_t Hf.out.2.1 Hb.out, wtN_len]
        have hpb2 : (p : Int) < (b : Int) := by omega
        generalize wtAt m (p : Int) = y at *
        clear hx1' hA hxr
        go_wp2_with (first | (go_at_call 49; refine (weights_c m _ _ ((Hu.out.ext hx1).ext hx) Hf.out.2.1).mono ?_; rintro e w2 ⟨v2, rfl, ho2, hx2⟩; obtain ⟨g, c2, hve2, hBg, hgl, hlc2, hcell2, _⟩ := ho2.shape (by rw [hwlen.out]; omega); rw [hwlen.out] at hve2; subst hve2; have hcy := hcell2 p y Hat.out; clear hcell2))
        go_roundw
        case rel => exact ⟨j + 1, z + y, by omega, by omega, by omega, by go_num, rfl, Hn, hx.tr hx2⟩
        case measure => simp [intOf]; omega
      · obtain rfl : j = k := by omega
        go_wp2
        go_ret
        have := hz.out
        rw [List.take_of_length_le (by rw [← Hk.out]; exact Nat.le_refl _)] at this
        exact ⟨by rw [H.out, ← this]; rfl, Ext.tr Hx0.out (hx1.tr hx)⟩
  · have H := Lib.hid (scoI_f hf)
    have Hf := Lib.hid hf
    clear hk hf
    go_enter Try.func33, Try.ntmps33
    go_wp2_with (first | (go_at_call 53; refine (fitsMeter_c n l m _ _ _ Hv.out Hu.out).mono ?_; rintro e w1 ⟨b1, rfl, hb1, hx1⟩; obtain rfl := bool_f hb1 Hf.out; clear hb1))
    go_ret
    exact ⟨by rw [H.out]; rfl, Ext.tr Hx0.out hx1⟩
set_option maxHeartbeats 1000000 in
theorem specScoreIn_c (n : Int) (l m : List Int) (v u : Value) (w : World) (hv : Ints w v l) (hu : Ints w u m) : Calls Try.prog 31 #[.agg #[.int .i64 n, v], u] w (RI (scoI n l m) w) := by
  obtain ⟨A, c, hve, _, _⟩ := hv.form0
  obtain ⟨k, hk⟩ : ∃ k, k = l.length := ⟨_, rfl⟩
  rw [← hk] at hve
  subst hve
  have hx0 := one_box w (.cells #[.int .i64 n, .slice A k c] 24)
  have Hv := Lib.hid (hv.ext hx0)
  have Hu := Lib.hid (hu.ext hx0)
  have Hr := Lib.hid (RVar.new (T := 24) w n (.slice A k c))
  have Hk := Lib.hid hk
  have Hx0 := Lib.hid hx0
  clear hv hu hx0
  by_cases hf : fitOk n l m
  · have H := Lib.hid (scoI_t hf)
    have hl24 := hf.1.len
    rw [← hk] at hl24
    obtain ⟨b, hb⟩ := Int.eq_ofNat_of_zero_le (show 0 ≤ prodL m by have := hf.2.1.small.prod; omega)
    have hb1 : 1 ≤ b := by have := hf.2.1.small.prod; omega
    have hnb : n = b := by rw [← hb]; exact hf.2.2
    have hb24 : b ≤ 24 := by have := hf.1.1; omega
    have Hf := Lib.hid hf
    have Hb := Lib.hid hb
    have Hnb := Lib.hid hnb
    have hwlen : Hid ((wtI m).length = b) := by unfold Hid; rw [wtI_t hf.2.1 hb, wtN_len]
    clear hk hf hb hnb
    go_enter Try.func31, Try.ntmps31
    go_wp2_with (first | (go_at_call 52; refine (l18Fit_c n l m _ _ _ Hv.out Hu.out).mono ?_; rintro e w1 ⟨b1, rfl, hb1, hx1⟩; obtain rfl := hb1.2 Hf.out; clear hb1) | (go_at_call 22; refine (specWeightsOf_c m _ _ (Hu.out.ext hx1)).mono ?_; rintro e w2 ⟨v2, rfl, ho2, hx2⟩; obtain ⟨g, c2, hve2, hBg, hgl, hlc2, _, _⟩ := ho2.shape (by rw [hwlen.out]; omega); rw [hwlen.out] at hve2; subst hve2; have hc0 := ((Hr.out.ext hx1).ext hx2).c0; have hc1 := ((Hr.out.ext hx1).ext hx2).c1))
    have Ho2 := Lib.hid ho2
    clear hc0 hc1 ho2
    go_loop [6, 18] (fun s i => ∃ (j : Nat) (z : Int), j ≤ k ∧ 0 ≤ z ∧ z ≤ 5 * j ∧ i = .int .i64 j ∧ s = .int .i64 z ∧ Hid (z = scoL m (l.take j))) (fun _ i => k - (intOf i).toNat)
    case atStart => exact ⟨0, 0, Nat.zero_le _, by omega, by omega, rfl, rfl, rfl⟩
    case round =>
      obtain ⟨j, z, hj, hz0, hz1, rfl, rfl, hz⟩ := hrel
      by_cases hjk : j < k
      · obtain ⟨ad, c', hA, _, _⟩ := Hv.out.form (by rw [← Hk.out]; omega)
        rw [← Hk.out] at hA
        obtain ⟨rfl, rfl⟩ : A = some ad ∧ c = c' := by simpa using hA
        obtain ⟨x, hx1'⟩ : ∃ x, l[j]? = some x := ⟨_, List.getElem?_eq_getElem (by rw [← Hk.out]; omega)⟩
        have hc := ((Hv.out.ext hx1).ext hx2).cell hx1'
        have hxr := Hf.out.1.2.2 x (List.mem_of_getElem? hx1')
        rw [Hnb.out] at hxr
        obtain ⟨p, rfl⟩ := Int.eq_ofNat_of_zero_le hxr.1
        have hpb : p < b := by omega
        have hwt := wtAt_bd Hf.out.2.1 (p : Int)
        have Hat := Lib.hid (wtI_at Hf.out.2.1 Hb.out hxr)
        have Hn : Hid (z + wtAt m (p : Int) = scoL m (l.take (j + 1))) := by unfold Hid; rw [scoL_take hx1', hz.out]
        have hpb2 : (p : Int) < (b : Int) := by omega
        generalize wtAt m (p : Int) = y at *
        have hcy := Ho2.out.cell (k := p) (x := y) Hat.out
        clear hx1' hA hxr
        go_wp2
        go_round
        case rel => exact ⟨j + 1, z + y, by omega, by omega, by omega, by go_num, rfl, Hn⟩
        case measure => simp [intOf]; omega
      · obtain rfl : j = k := by omega
        go_wp2
        go_ret
        have := hz.out
        rw [List.take_of_length_le (by rw [← Hk.out]; exact Nat.le_refl _)] at this
        exact ⟨by rw [H.out, ← this]; rfl, Ext.tr Hx0.out (hx1.tr hx2)⟩
  · have H := Lib.hid (scoI_f hf)
    have Hf := Lib.hid hf
    clear hk hf
    go_enter Try.func31, Try.ntmps31
    go_wp2_with (first | (go_at_call 52; refine (l18Fit_c n l m _ _ _ Hv.out Hu.out).mono ?_; rintro e w1 ⟨b1, rfl, hb1, hx1⟩; obtain rfl := bool_f hb1 Hf.out; clear hb1))
    go_ret
    exact ⟨by rw [H.out]; rfl, Ext.tr Hx0.out hx1⟩
end Go.Proofs.Ytblkddjljncggaa
