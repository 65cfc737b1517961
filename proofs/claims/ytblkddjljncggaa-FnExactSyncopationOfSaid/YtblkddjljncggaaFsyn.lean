/- Contracts: StepsOf of the reference, SyncopationOf on both sides. -/
import Derived.Test.YtblkddjljncggaaFsco
import Derived.Test.YtblkddjljncggaaFstp
import Derived.Outline
namespace Go.Proofs.Ytblkddjljncggaa
open Go.RowKit
/-- the greatest of f 1 .. f (d - 1), and 0 -/
def grt (f : Nat → Int) : Nat → Int
  | 0 => 0
  | d + 1 => if d = 0 then 0 else max (grt f d) (f d)
theorem grt_one (f : Nat → Int) : grt f 1 = 0 := rfl
theorem grt_succ {f : Nat → Int} {d : Nat} (h : 1 ≤ d) : grt f (d + 1) = max (grt f d) (f d) := by rw [grt, if_neg (by omega)]
/-- how late a beat is -/
def synAt (n : Int) (l m : List Int) (i : Nat) : Int := max 0 (grt (fun d => wtAt m ((l.getD i 0 + d) % n)) (stepAt n l i).toNat - wtAt m (l.getD i 0))
def synN (n : Int) (l m : List Int) (i : Nat) : Int := ((List.range i).map (synAt n l m)).sum
theorem synN_succ (n : Int) (l m : List Int) (i : Nat) : synN n l m (i + 1) = synN n l m i + synAt n l m i := by simp [synN, List.range_succ, List.sum_append]
def synI (n : Int) (l m : List Int) : Int := if fitOk n l m then synN n l m l.length else -1
theorem synI_t {n : Int} {l m : List Int} (h : fitOk n l m) : synI n l m = synN n l m l.length := by unfold synI; rw [if_pos h]
theorem synI_f {n : Int} {l m : List Int} (h : ¬ fitOk n l m) : synI n l m = -1 := by unfold synI; rw [if_neg h]
theorem stepAt_bd {n : Int} {l : List Int} (h : RhyOk n l) {i : Nat} (hi : i < l.length) : 1 ≤ stepAt n l i ∧ stepAt n l i ≤ 24 := by
  have hx : l[i]? = some l[i] := List.getElem?_eq_getElem hi
  have hx2 := h.2.2 _ (List.getElem_mem hi)
  have hn := h.1
  by_cases hj : i + 1 < l.length
  · have hy : l[i + 1]? = some l[i + 1] := List.getElem?_eq_getElem hj
    have hy2 := h.2.2 _ (List.getElem_mem hj)
    rw [stepAt_mid hx hy]
    have := (List.pairwise_iff_getElem.1 h.2.1) i (i + 1) hi hj (by omega)
    omega
  · have hz : l[0]? = some l[0] := List.getElem?_eq_getElem (by omega)
    have hz2 := h.2.2 l[0] (List.getElem_mem _)
    rw [stepAt_end hx hz hj]
    by_cases h0 : i = 0
    · subst h0; omega
    · have := (List.pairwise_iff_getElem.1 h.2.1) 0 i (by omega) hi (by omega)
      omega
theorem stepsL_get {n : Int} {l : List Int} {i : Nat} (hi : i < l.length) : (stepsL n l)[i]? = some (stepAt n l i) := by simp [stepsL, stepN, hi]
theorem specStepsOf_c (n : Int) (l : List Int) (v : Value) (w : World) (hv : Ints w v l) : Calls Try.prog 54 #[.agg #[.int .i64 n, v]] w (RL (stpI n l) w) := by
  obtain ⟨A, c, hve, _, hcm⟩ := hv.form0
  obtain ⟨k, hk⟩ : ∃ k, k = l.length := ⟨_, rfl⟩
  rw [← hk] at hve
  subst hve
  have hx0 := one_box w (.cells #[.int .i64 n, .slice A k c] 24)
  have Hv := Lib.hid (hv.ext hx0)
  have Hp := Lib.hid (RVar.new (T := 24) w n (.slice A k c))
  have Hx0 := Lib.hid hx0
  have Hk := Lib.hid hk
  clear hv hk hx0
  by_cases hr : RhyOk n l
  · have Hr := Lib.hid hr
    have H := Lib.hid (stpI_t hr)
    by_cases h0 : k = 0
    · have Hz : Hid (stepsL n l = []) := by
        unfold Hid stepsL
        rw [← Hk.out, h0]; rfl
      have hb0 : ((k : Int) == 0) = true := by simp [h0]
      clear hr h0
      go_enter Try.func54, Try.ntmps54
      go_wp2_with (first | (go_at_call 63; refine (specRhythmOk_c n l _ _ Hv.out).mono ?_; rintro e w1 ⟨b1, rfl, hb1, hx1⟩; obtain rfl := hb1.2 Hr.out; clear hb1; have hc0 := (Hp.out.ext hx1).c0; have hc1 := (Hp.out.ext hx1).c1))
      go_ret
      exact ⟨_, rfl, by rw [H.out, Hz.out]; exact Own.nil _ _, Hx0.out.tr hx1⟩
    · have hb0 : ((k : Int) == 0) = false := by rw [beq_eq_false_iff_ne]; omega
      clear hr h0
      go_enter Try.func54, Try.ntmps54
      go_wp2_with (first | (go_at_call 63; refine (specRhythmOk_c n l _ _ Hv.out).mono ?_; rintro e w1 ⟨b1, rfl, hb1, hx1⟩; obtain rfl := hb1.2 Hr.out; clear hb1; have hc0 := (Hp.out.ext hx1).c0; have hc1 := (Hp.out.ext hx1).c1) | (go_at_call 65; refine (l03Steps_c n l _ _ (Hv.out.ext hx1) Hr.out).mono ?_; rintro e w2 ⟨v2, rfl, ho2, hx2⟩))
      go_ret
      exact ⟨_, rfl, by rw [H.out]; exact ho2.base (Hx0.out.tr hx1).size, Hx0.out.tr (hx1.tr hx2)⟩
  · have Hr := Lib.hid hr
    have H := Lib.hid (stpI_f hr)
    clear hr
    go_enter Try.func54, Try.ntmps54
    go_wp2_with (first | (go_at_call 63; refine (specRhythmOk_c n l _ _ Hv.out).mono ?_; rintro e w1 ⟨b1, rfl, hb1, hx1⟩; obtain rfl := bool_f hb1 Hr.out; clear hb1))
    go_ret
    exact ⟨_, rfl, by rw [H.out]; exact Own.nil _ _, Hx0.out.tr hx1⟩
set_option maxHeartbeats 1000000 in
theorem syncopationOf_c (n : Int) (l m : List Int) (v u : Value) (w : World) (hv : Ints w v l) (hu : Ints w u m) : Calls Try.prog 35 #[.agg #[.int .i64 n, v], u] w (RI (synI n l m) w) := by
  obtain ⟨A, c, hve, _, _⟩ := hv.form0
  obtain ⟨k, hk⟩ : ∃ k, k = l.length := ⟨_, rfl⟩
  rw [← hk] at hve
  subst hve
  have hx0 := one_box w (.cells #[.int .i64 n, .slice A k c] 24)
  have Hv := Lib.hid (hv.ext hx0)
  have Hu := Lib.hid (hu.ext hx0)
  have Hr := Lib.hid (RVar.new (T := 24) w n (.slice A k c))
  have Hk := Lib.hid hk
  have Hx0 := Lib.hid hx0
  clear hv hu hx0
  by_cases hf : fitOk n l m
  · have H := Lib.hid (synI_t hf)
    have hl24 := RhyOk.len hf.1
    rw [← hk] at hl24
    obtain ⟨b, hb⟩ := Int.eq_ofNat_of_zero_le (show 0 ≤ prodL m by have := hf.2.1.small.prod; omega)
    have hb1 : 1 ≤ b := by have := hf.2.1.small.prod; omega
    have hnb : n = b := by rw [← hb]; exact hf.2.2
    have hb24 : b ≤ 24 := by have := hf.1.1; omega
    have Hf := Lib.hid hf
    have Hb := Lib.hid hb
    have hwlen : Hid ((wtI m).length = b) := by unfold Hid; rw [wtI_t hf.2.1 hb, wtN_len]
    have Hst : Hid (stpI n l = stepsL n l) := stpI_t hf.1
    have hslen : Hid ((stepsL n l).length = k) := by unfold Hid stepsL; rw [stepN_len, Hk.out]
    subst hnb
    clear hk hf hb
    go_enter Try.func35, Try.ntmps35
    go_wp2_with (first | (go_at_call 53; refine (fitsMeter_c (b : Int) l m _ _ _ Hv.out Hu.out).mono ?_; rintro e w1 ⟨b1, rfl, hb1', hx1⟩; obtain rfl := hb1'.2 Hf.out; clear hb1'; have hc0 := (Hr.out.ext hx1).c0; have hc1 := (Hr.out.ext hx1).c1))
    go_wp2_with (first | (go_at_call 49; refine (weights_c m _ _ (Hu.out.ext hx1) Hf.out.2.1).mono ?_; rintro e w2 ⟨v2, rfl, ho2, hx2⟩; obtain ⟨g, c2, hve2, hBg, hgl, hlc2, _, _⟩ := ho2.shape (by rw [hwlen.out]; omega); rw [hwlen.out] at hve2; subst hve2; have hc2 := ((Hr.out.ext hx1).ext hx2).c0; have hc3 := ((Hr.out.ext hx1).ext hx2).c1) | (go_at_call 55; refine (stepsOf_c (b : Int) l _ _ ((Hv.out.ext hx1).ext hx2)).mono ?_; rintro e w3 ⟨v3, rfl, ho3, hx3⟩; rw [Hst.out] at ho3; obtain ⟨A3, c3, hve3, _, _⟩ := ho3.slice; rw [hslen.out] at hve3; subst hve3; have hc4 := (((Hr.out.ext hx1).ext hx2).ext hx3).c0; have hc5 := (((Hr.out.ext hx1).ext hx2).ext hx3).c1))
    have Hl3 := Lib.hid (((Hv.out.ext hx1).ext hx2).ext hx3)
    have Hw3 := Lib.hid (ho2.ext hx3)
    have Hs3 := Lib.hid ho3.ints
    have Hx3 := Lib.hid (hx1.tr (hx2.tr hx3))
    clear hc0 hc1 hc2 hc3 ho2 ho3 hx1 hx2 hx3
    go_loop [6, 21] (fun s i => ∃ (j : Nat) (z : Int), j ≤ k ∧ 0 ≤ z ∧ z ≤ 5 * j ∧ i = .int .i64 j ∧ s = .int .i64 z ∧ Hid (z = synN b l m j)) (fun _ i => k - (intOf i).toNat)
    case atStart => exact ⟨0, 0, Nat.zero_le _, by omega, by omega, rfl, rfl, rfl⟩
    case round =>
      obtain ⟨j, z, hj, hz0, hz1, rfl, rfl, hz⟩ := hrel
      by_cases hjk : j < k
      · obtain ⟨ad, c', hA, _, _⟩ := Hl3.out.form (by rw [← Hk.out]; omega)
        rw [← Hk.out] at hA
        obtain ⟨rfl, rfl⟩ : A = some ad ∧ c = c' := by simpa using hA
        obtain ⟨ad3, c3', hA3, _, _⟩ := Hs3.out.form (by rw [hslen.out]; omega)
        rw [hslen.out] at hA3
        obtain ⟨rfl, rfl⟩ : A3 = some ad3 ∧ c3 = c3' := by simpa using hA3
        have hjl : j < l.length := by rw [← Hk.out]; exact hjk
        obtain ⟨x, hx⟩ : ∃ x, l[j]? = some x := ⟨_, List.getElem?_eq_getElem hjl⟩
        have hcx := Hl3.out.cell hx
        have hxr := Hf.out.1.2.2 x (List.mem_of_getElem? hx)
        obtain ⟨p, rfl⟩ := Int.eq_ofNat_of_zero_le hxr.1
        have hsb := stepAt_bd Hf.out.1 hjl
        obtain ⟨e, he⟩ := Int.eq_ofNat_of_zero_le (show 0 ≤ stepAt (b : Int) l j by omega)
        have hcs := Hs3.out.cell (stepsL_get (n := (b : Int)) hjl)
        rw [he] at hcs hsb
        have hpb : p < b := by omega
        have Hgd : Hid (l.getD j 0 = (p : Int)) := getD_of hx
        have He := Lib.hid he
        have hy0 := wtAt_bd Hf.out.2.1 (p : Int)
        have hcy0 := Hw3.out.cell (k := p) (x := wtAt m (p : Int)) (wtI_at Hf.out.2.1 Hb.out hxr)
        have Hsa : Hid (synAt b l m j = max 0 (grt (fun d => wtAt m (((p : Int) + d) % b)) e - wtAt m (p : Int))) := by
          unfold Hid synAt
          rw [Hgd.out, He.out]; rfl
        generalize hy0e : wtAt m (p : Int) = y0 at *
        clear hx hA hA3 hxr hjl he hy0e
        go_wp2
        go_loop [10, 11] (fun q d => ∃ (dd : Nat) (gg : Int), 1 ≤ dd ∧ dd ≤ e ∧ d = .int .i64 dd ∧ q = .int .i64 gg ∧ 0 ≤ gg ∧ gg ≤ 5 ∧ Hid (gg = grt (fun d => wtAt m (((p : Int) + d) % b)) dd)) (fun _ d => e - (intOf d).toNat)
        case atStart => exact ⟨1, 0, by omega, by omega, rfl, rfl, by omega, by omega, rfl⟩
        case round =>
          obtain ⟨dd, gg, hd1, hde, rfl, rfl, hg0, hg5, hgg⟩ := hrel
          by_cases hdl : dd < e
          · obtain ⟨q, hq⟩ := Int.eq_ofNat_of_zero_le (show 0 ≤ ((p : Int) + dd) % (b : Int) from Int.emod_nonneg _ (by omega))
            have hqb : (q : Int) < b := by rw [← hq]; exact Int.emod_lt_of_pos _ (by omega)
            have hy := wtAt_bd Hf.out.2.1 (q : Int)
            have hcy := Hw3.out.cell (k := q) (x := wtAt m (q : Int)) (wtI_at Hf.out.2.1 Hb.out ⟨by omega, hqb⟩)
            have Hn : Hid (max gg (wtAt m (q : Int)) = grt (fun d => wtAt m (((p : Int) + d) % b)) (dd + 1)) := by
              unfold Hid
              rw [grt_succ hd1, ← hgg.out, hq]
            generalize wtAt m (q : Int) = y at *
            have hmx : 0 ≤ max gg y ∧ max gg y ≤ 5 := by omega
            have hb1i : (1 : Int) ≤ (b : Int) := by omega
            have hqn : (p + dd) % b = q := by have h := hq; rw [← Int.natCast_add, ← Int.natCast_emod] at h; omega
            have Hmx : Hid ((if gg < y then y else gg) = max gg y) := by unfold Hid; split <;> omega
            go_wp2
            go_round
            case rel => exact ⟨dd + 1, max gg y, by omega, by omega, by go_num, by rw [Hmx.out], hmx.1, hmx.2, Hn⟩
            case measure => simp [intOf]; omega
          · obtain rfl : dd = e := by omega
            have hmz : 0 ≤ max 0 (gg - y0) ∧ max 0 (gg - y0) ≤ 5 := by omega
            have Hn : Hid (z + max 0 (gg - y0) = synN b l m (j + 1)) := by unfold Hid; rw [synN_succ, Hsa.out, ← hgg.out, ← hz.out]
            have Hmz : Hid ((if y0 < gg then gg - y0 else 0) = max 0 (gg - y0)) := by unfold Hid; split <;> omega
            go_wp2
            go_round
            case rel => exact ⟨j + 1, z + max 0 (gg - y0), by omega, by omega, by omega, by go_num, by rw [Hmz.out], Hn⟩
            case measure => simp [intOf]; omega
      · obtain rfl : j = k := by omega
        go_wp2
        go_ret
        exact ⟨by rw [H.out, ← Hk.out, ← hz.out]; rfl, Hx0.out.tr Hx3.out⟩
  · have H := Lib.hid (synI_f hf)
    have Hf := Lib.hid hf
    clear hk hf
    go_enter Try.func35, Try.ntmps35
    go_wp2_with (first | (go_at_call 53; refine (fitsMeter_c n l m _ _ _ Hv.out Hu.out).mono ?_; rintro e w1 ⟨b1, rfl, hb1, hx1⟩; obtain rfl := bool_f hb1 Hf.out; clear hb1))
    go_ret
    exact ⟨by rw [H.out]; rfl, Ext.tr Hx0.out hx1⟩
set_option maxHeartbeats 1000000 in
theorem specSyncopationOf_c (n : Int) (l m : List Int) (v u : Value) (w : World) (hv : Ints w v l) (hu : Ints w u m) : Calls Try.prog 34 #[.agg #[.int .i64 n, v], u] w (RI (synI n l m) w) := by
  obtain ⟨A, c, hve, _, _⟩ := hv.form0
  obtain ⟨k, hk⟩ : ∃ k, k = l.length := ⟨_, rfl⟩
  rw [← hk] at hve
  subst hve
  have hx0 := one_box w (.cells #[.int .i64 n, .slice A k c] 24)
  have Hv := Lib.hid (hv.ext hx0)
  have Hu := Lib.hid (hu.ext hx0)
  have Hr := Lib.hid (RVar.new (T := 24) w n (.slice A k c))
  have Hk := Lib.hid hk
  have Hx0 := Lib.hid hx0
  clear hv hu hx0
  by_cases hf : fitOk n l m
  · have H := Lib.hid (synI_t hf)
    have hl24 := RhyOk.len hf.1
    rw [← hk] at hl24
    obtain ⟨b, hb⟩ := Int.eq_ofNat_of_zero_le (show 0 ≤ prodL m by have := hf.2.1.small.prod; omega)
    have hb1 : 1 ≤ b := by have := hf.2.1.small.prod; omega
    have hnb : n = b := by rw [← hb]; exact hf.2.2
    have hb24 : b ≤ 24 := by have := hf.1.1; omega
    have Hf := Lib.hid hf
    have Hb := Lib.hid hb
    have hwlen : Hid ((wtI m).length = b) := by unfold Hid; rw [wtI_t hf.2.1 hb, wtN_len]
    have Hst : Hid (stpI n l = stepsL n l) := stpI_t hf.1
    have hslen : Hid ((stepsL n l).length = k) := by unfold Hid stepsL; rw [stepN_len, Hk.out]
    subst hnb
    clear hk hf hb
    go_enter Try.func34, Try.ntmps34
    go_wp2_with (first | (go_at_call 52; refine (l18Fit_c (b : Int) l m _ _ _ Hv.out Hu.out).mono ?_; rintro e w1 ⟨b1, rfl, hb1', hx1⟩; obtain rfl := hb1'.2 Hf.out; clear hb1'; have hc0 := (Hr.out.ext hx1).c0; have hc1 := (Hr.out.ext hx1).c1))
    go_wp2_with (first | (go_at_call 22; refine (specWeightsOf_c m _ _ (Hu.out.ext hx1)).mono ?_; rintro e w2 ⟨v2, rfl, ho2, hx2⟩; obtain ⟨g, c2, hve2, hBg, hgl, hlc2, _, _⟩ := ho2.shape (by rw [hwlen.out]; omega); rw [hwlen.out] at hve2; subst hve2; have hc2 := ((Hr.out.ext hx1).ext hx2).c0; have hc3 := ((Hr.out.ext hx1).ext hx2).c1) | (go_at_call 54; refine (specStepsOf_c (b : Int) l _ _ ((Hv.out.ext hx1).ext hx2)).mono ?_; rintro e w3 ⟨v3, rfl, ho3, hx3⟩; rw [Hst.out] at ho3; obtain ⟨A3, c3, hve3, _, _⟩ := ho3.slice; rw [hslen.out] at hve3; subst hve3; have hc4 := (((Hr.out.ext hx1).ext hx2).ext hx3).c0; have hc5 := (((Hr.out.ext hx1).ext hx2).ext hx3).c1))
    have Hl3 := Lib.hid (((Hv.out.ext hx1).ext hx2).ext hx3)
    have Hw3 := Lib.hid (ho2.ext hx3)
    have Hs3 := Lib.hid ho3.ints
    have Hx3 := Lib.hid (hx1.tr (hx2.tr hx3))
    clear hc0 hc1 hc2 hc3 ho2 ho3 hx1 hx2 hx3
    go_loop [7, 23] (fun s i => ∃ (j : Nat) (z : Int), j ≤ k ∧ 0 ≤ z ∧ z ≤ 5 * j ∧ i = .int .i64 j ∧ s = .int .i64 z ∧ Hid (z = synN b l m j)) (fun _ i => k - (intOf i).toNat)
    case atStart => exact ⟨0, 0, Nat.zero_le _, by omega, by omega, rfl, rfl, rfl⟩
    case round =>
      obtain ⟨j, z, hj, hz0, hz1, rfl, rfl, hz⟩ := hrel
      by_cases hjk : j < k
      · obtain ⟨ad, c', hA, _, _⟩ := Hl3.out.form (by rw [← Hk.out]; omega)
        rw [← Hk.out] at hA
        obtain ⟨rfl, rfl⟩ : A = some ad ∧ c = c' := by simpa using hA
        obtain ⟨ad3, c3', hA3, _, _⟩ := Hs3.out.form (by rw [hslen.out]; omega)
        rw [hslen.out] at hA3
        obtain ⟨rfl, rfl⟩ : A3 = some ad3 ∧ c3 = c3' := by simpa using hA3
        have hjl : j < l.length := by rw [← Hk.out]; exact hjk
        obtain ⟨x, hx⟩ : ∃ x, l[j]? = some x := ⟨_, List.getElem?_eq_getElem hjl⟩
        have hcx := Hl3.out.cell hx
        have hxr := Hf.out.1.2.2 x (List.mem_of_getElem? hx)
        obtain ⟨p, rfl⟩ := Int.eq_ofNat_of_zero_le hxr.1
        have hsb := stepAt_bd Hf.out.1 hjl
        obtain ⟨e, he⟩ := Int.eq_ofNat_of_zero_le (show 0 ≤ stepAt (b : Int) l j by omega)
        have hcs := Hs3.out.cell (stepsL_get (n := (b : Int)) hjl)
        rw [he] at hcs hsb
        have hpb : p < b := by omega
        have Hgd : Hid (l.getD j 0 = (p : Int)) := getD_of hx
        have He := Lib.hid he
        have hy0 := wtAt_bd Hf.out.2.1 (p : Int)
        have hcy0 := Hw3.out.cell (k := p) (x := wtAt m (p : Int)) (wtI_at Hf.out.2.1 Hb.out hxr)
        have Hsa : Hid (synAt b l m j = max 0 (grt (fun d => wtAt m (((p : Int) + d) % b)) e - wtAt m (p : Int))) := by
          unfold Hid synAt
          rw [Hgd.out, He.out]; rfl
        generalize hy0e : wtAt m (p : Int) = y0 at *
        clear hx hA hA3 hxr hjl he hy0e
        go_wp2
        go_loop [10, 11] (fun q d => ∃ (dd : Nat) (gg : Int), 1 ≤ dd ∧ dd ≤ e ∧ d = .int .i64 dd ∧ q = .int .i64 gg ∧ 0 ≤ gg ∧ gg ≤ 5 ∧ Hid (gg = grt (fun d => wtAt m (((p : Int) + d) % b)) dd)) (fun _ d => e - (intOf d).toNat)
        case atStart => exact ⟨1, 0, by omega, by omega, rfl, rfl, by omega, by omega, rfl⟩
        case round =>
          obtain ⟨dd, gg, hd1, hde, rfl, rfl, hg0, hg5, hgg⟩ := hrel
          by_cases hdl : dd < e
          · obtain ⟨q, hq⟩ := Int.eq_ofNat_of_zero_le (show 0 ≤ ((p : Int) + dd) % (b : Int) from Int.emod_nonneg _ (by omega))
            have hqb : (q : Int) < b := by rw [← hq]; exact Int.emod_lt_of_pos _ (by omega)
            have hy := wtAt_bd Hf.out.2.1 (q : Int)
            have hcy := Hw3.out.cell (k := q) (x := wtAt m (q : Int)) (wtI_at Hf.out.2.1 Hb.out ⟨by omega, hqb⟩)
            have Hn : Hid (max gg (wtAt m (q : Int)) = grt (fun d => wtAt m (((p : Int) + d) % b)) (dd + 1)) := by
              unfold Hid
              rw [grt_succ hd1, ← hgg.out, hq]
            generalize wtAt m (q : Int) = y at *
            have hmx : 0 ≤ max gg y ∧ max gg y ≤ 5 := by omega
            have hb1i : (1 : Int) ≤ (b : Int) := by omega
            have hqn : (p + dd) % b = q := by have h := hq; rw [← Int.natCast_add, ← Int.natCast_emod] at h; omega
            have Hmx : Hid ((if gg < y then y else gg) = max gg y) := by unfold Hid; split <;> omega
            go_wp2
            go_round
            case rel => exact ⟨dd + 1, max gg y, by omega, by omega, by go_num, by rw [Hmx.out], hmx.1, hmx.2, Hn⟩
            case measure => simp [intOf]; omega
          · obtain rfl : dd = e := by omega
            have hmz : 0 ≤ max 0 (gg - y0) ∧ max 0 (gg - y0) ≤ 5 := by omega
            have Hn : Hid (z + max 0 (gg - y0) = synN b l m (j + 1)) := by unfold Hid; rw [synN_succ, Hsa.out, ← hgg.out, ← hz.out]
            have Hmz : Hid ((if y0 < gg then gg - y0 else 0) = max 0 (gg - y0)) := by unfold Hid; split <;> omega
            go_wp2
            go_round
            case rel => exact ⟨j + 1, z + max 0 (gg - y0), by omega, by omega, by omega, by go_num, by rw [Hmz.out], Hn⟩
            case measure => simp [intOf]; omega
      · obtain rfl : j = k := by omega
        go_wp2
        go_ret
        exact ⟨by rw [H.out, ← Hk.out, ← hz.out]; rfl, Hx0.out.tr Hx3.out⟩
  · have H := Lib.hid (synI_f hf)
    have Hf := Lib.hid hf
    clear hk hf
    go_enter Try.func34, Try.ntmps34
    go_wp2_with (first | (go_at_call 52; refine (l18Fit_c n l m _ _ _ Hv.out Hu.out).mono ?_; rintro e w1 ⟨b1, rfl, hb1, hx1⟩; obtain rfl := bool_f hb1 Hf.out; clear hb1))
    go_ret
    exact ⟨by rw [H.out]; rfl, Ext.tr Hx0.out hx1⟩
end Go.Proofs.Ytblkddjljncggaa
