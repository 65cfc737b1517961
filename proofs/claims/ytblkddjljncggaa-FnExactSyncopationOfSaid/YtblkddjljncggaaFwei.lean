/- Contracts: WeightsOf on both sides. -/
import Derived.Test.YtblkddjljncggaaFbeg
import Derived.Test.YtblkddjljncggaaPureW
import Derived.Outline
namespace Go.Proofs.Ytblkddjljncggaa
open Go.RowKit
theorem Own.bump {w : World} {B b k : Nat} {v u : Value} {l : List Int} (h : Own w B v l) (hb : b < B) : Own (w.setCell ⟨b, k, none⟩ u) B v l := h.other hb
theorem div_of_mul {a b u : Nat} (ha : 1 ≤ a) (h : b = a * u) : b / a = u ∧ b % a = 0 := by
  subst h
  exact ⟨Nat.mul_div_cancel_left _ (by omega), Nat.mul_mod_right _ _⟩
set_option maxHeartbeats 1000000 in
theorem weights_c (l : List Int) (v : Value) (w : World) (hv : Ints w v l) (hm : MetOk l) : Calls Try.prog 49 #[v] w (RL (wtI l) w) := by
  obtain ⟨ad, c, hve, hlc, hcm⟩ := hv.form (by have := hm.1; omega)
  obtain ⟨n, hn⟩ : ∃ n, n = l.length := ⟨_, rfl⟩
  rw [← hn] at hve hlc
  subst hve
  obtain ⟨b, hb⟩ := Int.eq_ofNat_of_zero_le (show 0 ≤ prodL l by have := hm.small.prod; omega)
  have hb24 : b ≤ 24 := by have := hm.2.2; omega
  have hn5 : n ≤ 5 := by have := hm.1.2; omega
  have H := Lib.hid (wtI_t hm hb)
  have Hv := Lib.hid hv
  have Hm := Lib.hid hm
  have Hb := Lib.hid hb
  have Hn := Lib.hid hn
  clear hv hm hb hn
  go_enter Try.func49, Try.ntmps49
  go_wp2_with (first | (go_at_call 50; refine (product_c l _ _ Hv.out Hm.out.small).mono ?_; rintro e w1 ⟨rfl, rfl⟩; rw [Hb.out]) | (at_make; refine wp_make1 rfl (.tmp 8) rfl b rfl (by omega) (Nat.le_refl _) ?_; intro w1 hown1 hx1))
  go_loopw [12] (fun i wr => ∃ j : Nat, j ≤ n ∧ i = .int .i64 j ∧ Hid (Own wr w.heap.size (.slice (some ⟨w.heap.size, 0, none⟩) b b) (wtN l b j)) ∧ Ext w wr) (fun i _ => n - (intOf i).toNat)
  case atStart => exact ⟨0, Nat.zero_le _, rfl, by unfold Hid; rw [wtN_zero]; exact hown1, hx1⟩
  case round =>
    clear hown1
    obtain ⟨j, hj, rfl, hown, hx⟩ := hrel
    by_cases hjn : j < n
    · have hjl : j < l.length := by rw [← Hn.out]; exact hjn
      obtain ⟨a, b', u, ha, hb, hu, ha1, ha24, hu1, hu24, hb1, hb24', hbu⟩ := bg_nums Hm.out hjl
      obtain rfl : b' = b := by have := Hb.out; omega
      obtain ⟨hdiv, hmod⟩ := div_of_mul ha1 hbu
      have hun : unitN l j = u := by unfold unitN; rw [hu]; rfl
      have Ht := Lib.hid ((Hv.out.takeN (k := j + 1) (by omega)).ext hx)
      have Hst := Lib.hid (Hm.out.small.take (j + 1))
      have Ha := Lib.hid ha
      have Hmem : Hid (∀ p, p < b' → ((p : Int) ∈ layN a b' a ↔ p % unitN l j = 0)) := fun p hp => by rw [layN_eq, hun, ← hdiv]; exact mem_layL ha1 hb1 hmod hp
      have Hinc : Hid (Inc (layN a b' a)) := by unfold Hid; rw [layN_eq]; exact layL_inc ha1 hb1 hmod
      have Hin : Hid (∀ x ∈ layN a b' a, 0 ≤ x ∧ x < b') := fun x hx => layL_mem ha1 hx hb1
      have hin : ((j : Int) + 1).toNat = j + 1 := by omega
      have hii : (0 : Int) ≤ (j : Int) + 1 ∧ (j : Int) + 1 ≤ (n : Int) ∧ (n : Int) ≤ (c : Int) := by omega
      clear ha hb hu hbu hdiv hmod hun hjl
      go_wp2_with (first | (go_at_call 50; refine (product_c (l.take (j + 1)) _ _ Ht.out Hst.out).mono ?_; rintro e wz ⟨rfl, rfl⟩; rw [Ha.out]) | (go_at_call 39; refine (layer_c a b' _ (by omega) (by omega) (by omega)).mono ?_; rintro e w2 ⟨u2, rfl, ho2, hx2⟩; obtain ⟨g, c2, hve2, hBg, hgl, hlc2, _, _⟩ := ho2.shape (by rw [layN_len]; omega); rw [layN_len] at hve2 hlc2; subst hve2; have hfl := fld1 (b' : Int) (some ⟨g, 0, none⟩) a c2 w2))
      have Hstart : Hid (Own w2 w.heap.size (.slice (some ⟨w.heap.size, 0, none⟩) b' b') (wtIn l b' j ((layN a b' a).take 0)) ∧ Own w2 wr.heap.size (.slice (some ⟨g, 0, none⟩) a c2) (layN a b' a) ∧ Ext w w2) := ⟨by rw [List.take_zero, wtIn_nil]; exact hown.out.ext hx2, ho2, hx.tr hx2⟩
      have hwr : w.heap.size < wr.heap.size := (hown.out.base_le).2
      clear hfl ho2 hx2 hown hx
      go_loopw [25] (fun k wr2 => ∃ m : Nat, m ≤ a ∧ k = .int .i64 m ∧ Hid (Own wr2 w.heap.size (.slice (some ⟨w.heap.size, 0, none⟩) b' b') (wtIn l b' j ((layN a b' a).take m)) ∧ Own wr2 wr.heap.size (.slice (some ⟨g, 0, none⟩) a c2) (layN a b' a) ∧ Ext w wr2)) (fun k _ => a - (intOf k).toNat)
      case atStart => exact ⟨0, Nat.zero_le _, rfl, Hstart.out⟩
      case round =>
        clear Hstart
        obtain ⟨m, hm, rfl, hr⟩ := hrel
        by_cases hma : m < a
        · obtain ⟨x, hx⟩ : ∃ x, (layN a b' a)[m]? = some x := ⟨_, List.getElem?_eq_getElem (by rw [layN_len]; exact hma)⟩
          have hxm := Hin.out x (List.mem_of_getElem? hx)
          obtain ⟨p, rfl⟩ := Int.eq_ofNat_of_zero_le hxm.1
          have hpb : p < b' := by omega
          have hno := inc_not_mem Hinc.out hx
          have hcx := hr.out.2.1.cell hx
          have hco := hr.out.1.cell (wtIn_get (l := l) (i := j) hpb hno)
          have hfo := hr.out.1.free p
          have hwl := wc_le l j p
          have hst := hr.out.1.stored p (x := (wc l j p : Int) + 1) (by unfold I64; omega)
          rw [wtIn_set hno, ← take_succ hx] at hst
          have Hst2 := Lib.hid hst
          have hma2 : (m : Int) < (a : Int) := by omega
          have hpb2 : (p : Int) < (b' : Int) := by omega
          clear hx hno hst hxm
          go_wp2
          go_roundw
          case rel => exact ⟨m + 1, by omega, by go_num, Hst2.out.1, hr.out.2.1.other hwr, hr.out.2.2.setCell (Nat.le_refl _) _⟩
          case measure => simp [intOf]; omega
        · obtain rfl : m = a := by omega
          have h0 := hr.out.1
          rw [layN_take _ _ _ (Nat.le_refl _), wtIn_end Hmem.out] at h0
          have H0 := Lib.hid h0
          clear h0
          go_wp2
          go_roundw
          case rel => exact ⟨j + 1, by omega, by go_num, H0.out, hr.out.2.2⟩
          case measure => simp [intOf]; omega
    · obtain rfl : j = n := by omega
      go_wp2
      go_ret
      exact ⟨_, rfl, by rw [H.out, ← Hn.out]; exact hown.out, hx⟩
theorem weightsOf_c (l : List Int) (v : Value) (w : World) (hv : Ints w v l) : Calls Try.prog 24 #[v] w (RL (wtI l) w) := by
  have Hv := Lib.hid hv
  clear hv
  by_cases hm : MetOk l
  · have Hm := Lib.hid hm
    clear hm
    go_enter Try.func24, Try.ntmps24
    go_wp2_with (first | (go_at_call 48; refine (meterOk_c l _ _ Hv.out).mono ?_; rintro e w1 ⟨b, rfl, hb, hx⟩; obtain rfl := hb.2 Hm.out; clear hb) | (go_at_call 49; refine (weights_c l _ _ (Hv.out.ext hx) Hm.out).mono ?_; rintro e w2 ⟨v2, rfl, ho2, hx2⟩))
    go_ret
    exact ⟨_, rfl, ho2.base hx.size, hx.tr hx2⟩
  · have H := Lib.hid (wtI_f hm)
    have Hm := Lib.hid hm
    clear hm
    go_enter Try.func24, Try.ntmps24
    go_wp2_with (first | (go_at_call 48; refine (meterOk_c l _ _ Hv.out).mono ?_; rintro e w1 ⟨b, rfl, hb, hx⟩; obtain rfl := bool_f hb Hm.out; clear hb))
    go_ret
    exact ⟨_, rfl, by rw [H.out]; exact Own.nil _ _, hx⟩
set_option maxHeartbeats 1000000 in
theorem specWeightsOf_c (l : List Int) (v : Value) (w : World) (hv : Ints w v l) : Calls Try.prog 22 #[v] w (RL (wtI l) w) := by
  by_cases hm : MetOk l
  · obtain ⟨ad, c, hve, hlc, hcm⟩ := hv.form (by have := hm.1; omega)
    obtain ⟨n, hn⟩ : ∃ n, n = l.length := ⟨_, rfl⟩
    rw [← hn] at hve hlc
    subst hve
    obtain ⟨b, hb⟩ := Int.eq_ofNat_of_zero_le (show 0 ≤ prodL l by have := hm.small.prod; omega)
    have hb24 : b ≤ 24 := by have := hm.2.2; omega
    have hn5 : n ≤ 5 := by have := hm.1.2; omega
    have H := Lib.hid (wtI_t hm hb)
    have Hv := Lib.hid hv
    have Hm := Lib.hid hm
    have Hb := Lib.hid hb
    have Hn := Lib.hid hn
    clear hv hm hb hn
    go_enter Try.func22, Try.ntmps22
    go_wp2_with (first | (go_at_call 45; refine (specMeterOk_c l _ _ Hv.out).mono ?_; rintro e w1 ⟨b1, rfl, hbm, rfl⟩; obtain rfl := hbm.2 Hm.out; clear hbm))
    go_loopw [3, 4] (fun o i wr => ∃ k : Nat, k ≤ b ∧ i = .int .i64 k ∧ Hid (Own wr w.heap.size o (wtN l k n)) ∧ Ext w wr) (fun _ i _ => b - (intOf i).toNat)
    case atStart => exact ⟨0, Nat.zero_le _, rfl, Own.empty (Nat.le_refl _), one_box w _⟩
    case round =>
      obtain ⟨k, hk, rfl, hown, hx⟩ := hrel
      have hln : (wtN l k n).length ≤ k := Nat.le_of_eq (wtN_len l k n)
      by_cases hkb : k < b
      · go_wp2_with (first | (go_at_call 46; refine (l18Size_c l _ _ (Hv.out.ext hx) Hm.out.small).mono ?_; rintro e wz ⟨rfl, rfl⟩; rw [Hb.out]))
        go_loop [5, 19] (fun q i => ∃ j : Nat, j ≤ n ∧ i = .int .i64 j ∧ q = .int .i64 (wc l j k : Nat)) (fun _ i => n - (intOf i).toNat)
        case atStart => exact ⟨0, Nat.zero_le _, rfl, rfl⟩
        case round =>
          obtain ⟨j, hj, rfl, rfl⟩ := hrel
          have hwl := wc_le l j k
          by_cases hjn : j < n
          · have hjl : j < l.length := by rw [← Hn.out]; exact hjn
            have Hjl := Lib.hid hjl
            obtain ⟨a, b', u, ha, hb, hu, ha1, ha24, hu1, hu24, hb1, hb24', hbu⟩ := bg_nums Hm.out hjl
            have Hu := Lib.hid hu
            have hu0 : ¬ u = 0 := by omega
            have hu1i : (1 : Int) ≤ (u : Int) := by omega
            by_cases hd : k % u = 0
            · have Hn2 : Hid (wc l (j + 1) k = wc l j k + 1) := by
                unfold Hid
                rw [show wc l (j + 1) k = wc l j k + if k % unitN l j = 0 then 1 else 0 from rfl, if_pos (by unfold unitN; rw [hu]; exact hd)]
              have hrem : (((k : Int) % (u : Int)) == 0) = true := by rw [← Int.natCast_emod, hd]; rfl
              clear ha hb hu hbu hjl hd
              go_wp2_with (first | (go_at_call 47; refine (l18Unit_c l j _ _ (Hv.out.ext hx) Hm.out.small Hjl.out).mono ?_; rintro e wz ⟨rfl, rfl⟩; rw [Hu.out]))
              go_round
              case rel => exact ⟨j + 1, by omega, by go_num, by rw [Hn2.out]; go_num⟩
              case measure => simp [intOf]; omega
            · have Hn2 : Hid (wc l (j + 1) k = wc l j k) := by
                unfold Hid
                rw [show wc l (j + 1) k = wc l j k + if k % unitN l j = 0 then 1 else 0 from rfl, if_neg (by unfold unitN; rw [hu]; exact hd)]
                rfl
              have hrem : (((k : Int) % (u : Int)) == 0) = false := by rw [← Int.natCast_emod, beq_eq_false_iff_ne]; omega
              clear ha hb hu hbu hjl hd
              go_wp2_with (first | (go_at_call 47; refine (l18Unit_c l j _ _ (Hv.out.ext hx) Hm.out.small Hjl.out).mono ?_; rintro e wz ⟨rfl, rfl⟩; rw [Hu.out]))
              go_round
              case rel => exact ⟨j + 1, by omega, by go_num, by rw [Hn2.out]⟩
              case measure => simp [intOf]; omega
          · obtain rfl : j = n := by omega
            have Hn2 := Lib.hid (wtN_succ l k j)
            go_wp2_with (first | (at_builtin; refine wp_append1 rfl (.tmp 31) (.tmp 33) rfl rfl rfl hown.out (by unfold I64; omega) (by omega) hx.size ?_; intro v' w' ho hg hb hat))
            go_roundw
            case rel => exact ⟨k + 1, by omega, by go_num, by unfold Hid; rw [Hn2.out]; exact ho, hx.trans hb⟩
            case measure => simp [intOf]; omega
      · obtain rfl : k = b := by omega
        go_wp2_with (first | (go_at_call 46; refine (l18Size_c l _ _ (Hv.out.ext hx) Hm.out.small).mono ?_; rintro e wz ⟨rfl, rfl⟩; rw [Hb.out]))
        go_ret
        exact ⟨_, rfl, by rw [H.out, ← Hn.out]; exact hown.out, hx⟩
  · have H := Lib.hid (wtI_f hm)
    have Hv := Lib.hid hv
    have Hm := Lib.hid hm
    clear hm hv
    go_enter Try.func22, Try.ntmps22
    go_wp2_with (first | (go_at_call 45; refine (specMeterOk_c l _ _ Hv.out).mono ?_; rintro e w1 ⟨b1, rfl, hbm, rfl⟩; obtain rfl := bool_f hbm Hm.out; clear hbm))
    go_ret
    exact ⟨_, rfl, by rw [H.out]; exact Own.nil _ _, Below.refl _ _⟩
end Go.Proofs.Ytblkddjljncggaa
