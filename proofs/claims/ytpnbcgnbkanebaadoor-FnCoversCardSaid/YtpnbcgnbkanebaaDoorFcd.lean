/- Contracts: CoverLengths, LeastCover on both sides. -/
import Derived.Test.YtpnbcgnbkanebaaDoorFcc
namespace Go.Proofs.YtpnbcgnbkanebaaDoor
open Go.RowKit
theorem lenUp_t' {p : List Int} {j : Nat} (hj : 1 ≤ j) (h : 0 < (cvs p j).length) : lenUp p (j + 1 - 1) = lenUp p (j - 1) ++ [(j : Int)] := by
  obtain ⟨k, rfl⟩ : ∃ k, j = k + 1 := ⟨j - 1, by omega⟩
  exact lenUp_t h
theorem lenUp_f' {p : List Int} {j : Nat} (hj : 1 ≤ j) (h : ¬ 0 < (cvs p j).length) : lenUp p (j + 1 - 1) = lenUp p (j - 1) := by
  obtain ⟨k, rfl⟩ : ∃ k, j = k + 1 := ⟨j - 1, by omega⟩
  exact lenUp_f h
theorem lenUp_le (p : List Int) {j : Nat} (hj : j ≤ 25) : (lenUp p (j - 1)).length ≤ 24 := by have := lenUp_len p (j - 1); omega
set_option maxRecDepth 100000 in
set_option maxHeartbeats 1000000 in
theorem coverLengths_c (p : List Int) (v : Value) (w : World) (hv : Ints w v p) (ht : TabAt 1 Lib.deBruijn64tab w) : Calls Tryd.prog 21 #[v] w (RL (lenC p) w) := by
  have Hv := Lib.hid hv
  have Ht := Lib.hid ht
  clear hv ht
  by_cases hp : PatOk p
  · have Hp := Lib.hid hp
    have H := Lib.hid (lenC_t hp)
    clear hp
    go_enter Tryd.func21, Tryd.ntmps21
    go_wp2_with (first | (go_at_call 26; refine (patternOk_c p _ _ Hv.out).mono ?_; rintro e w1 ⟨b, rfl, hb, rfl⟩; obtain rfl := hb.2 Hp.out; clear hb))
    go_loopw [3, 4] (fun o i wr => ∃ j : Nat, 1 ≤ j ∧ j ≤ 25 ∧ i = .int .i64 j ∧ Hid (Own wr w.heap.size o (lenUp p (j - 1)) ∧ Ext w wr)) (fun _ i _ => 25 - (intOf i).toNat)
    case atStart => exact ⟨1, by omega, by omega, rfl, Own.nil _ _, Below.refl _ _⟩
    case round =>
      obtain ⟨j, hj1, hj25, rfl, hr⟩ := hrel
      by_cases hj : j ≤ 24
      · have hj24 : (j : Int) ≤ 24 := by omega
        have hl2 := lenUp_le p hj25
        by_cases hc : 0 < (cvs p j).length
        · have Hn := Lib.hid (lenUp_t' hj1 hc)
          have Hc := Lib.hid hc
          clear hc
          go_wp2_with (first | (go_at_call 29; refine (covers_c p j _ _ (Hv.out.ext hr.out.2) Hp.out (by omega) (TabAt.ext Ht.out hr.out.2)).mono ?_; rintro e w1 ⟨v1, usv1, rfl, ho1, hx1⟩; (obtain ⟨A1, c1, hv1, _, _⟩ := ho1.form; obtain ⟨m1, hm1⟩ : ∃ m1, m1 = usv1.length := ⟨_, rfl⟩; rw [← hm1] at hv1; subst hv1; have hm0 : (0 : Int) < (m1 : Int) := (by have h1 := ho1.2.1; have h2 := Hc.out; unfold cvs at h2; omega); have Hr1 : Hid (Own w1 w.heap.size u3 (lenUp p (j - 1))) := hr.out.1.ext hx1; have HX1 := Lib.hid (hr.out.2.tr hx1); clear hm1 ho1 hx1)) | (at_builtin; refine wp_append1 rfl (.tmp 17) (.tmp 19) rfl rfl rfl Hr1.out (by unfold I64; omega) (by omega) HX1.out.size ?_; intro v' w' ho hg hb hat; have HX := Lib.hid (HX1.out.trans hb); clear hg hb hat))
          go_roundw
          case rel => first | exact ⟨j + 1, by omega, by omega, by go_num, by unfold Hid; rw [Hn.out]; exact ⟨ho, HX.out⟩⟩ | ((repeat apply Exists.intro); exact ⟨⟨j + 1, by omega, by omega, by go_num, by unfold Hid; rw [Hn.out]; exact ⟨ho, HX.out⟩⟩, rfl⟩)
          case measure => simp [intOf]; omega
        · have Hn := Lib.hid (lenUp_f' hj1 hc)
          have Hc := Lib.hid hc
          clear hc
          go_wp2_with (first | (go_at_call 29; refine (covers_c p j _ _ (Hv.out.ext hr.out.2) Hp.out (by omega) (TabAt.ext Ht.out hr.out.2)).mono ?_; rintro e w1 ⟨v1, usv1, rfl, ho1, hx1⟩; (obtain ⟨A1, c1, hv1, _, _⟩ := ho1.form; obtain ⟨m1, hm1⟩ : ∃ m1, m1 = usv1.length := ⟨_, rfl⟩; rw [← hm1] at hv1; subst hv1; obtain rfl : m1 = 0 := (by have h1 := ho1.2.1; have h2 := Hc.out; unfold cvs at h2; omega); have Hr1 : Hid (Own w1 w.heap.size u3 (lenUp p (j - 1))) := hr.out.1.ext hx1; have HX1 := Lib.hid (hr.out.2.tr hx1); clear hm1 ho1 hx1)))
          go_roundw
          case rel => first | exact ⟨j + 1, by omega, by omega, by go_num, by unfold Hid; rw [Hn.out]; exact ⟨Hr1.out, HX1.out⟩⟩ | ((repeat apply Exists.intro); exact ⟨⟨j + 1, by omega, by omega, by go_num, by unfold Hid; rw [Hn.out]; exact ⟨Hr1.out, HX1.out⟩⟩, rfl⟩)
          case measure => simp [intOf]; omega
      · obtain rfl : j = 25 := by omega
        go_wp2
        go_ret
        exact ⟨_, rfl, by rw [H.out]; exact hr.out.1, hr.out.2⟩
  · have H := Lib.hid (lenC_f hp)
    have Hp := Lib.hid hp
    clear hp
    go_enter Tryd.func21, Tryd.ntmps21
    go_wp2_with (first | (go_at_call 26; refine (patternOk_c p _ _ Hv.out).mono ?_; rintro e w1 ⟨b, rfl, hb, rfl⟩; obtain rfl := bool_f hb Hp.out; clear hb))
    go_ret
    exact ⟨_, rfl, by rw [H.out]; exact Own.nil _ _, Below.refl _ _⟩
set_option maxRecDepth 100000 in
set_option maxHeartbeats 1000000 in
theorem leastCover_c (p : List Int) (v : Value) (w : World) (hv : Ints w v p) (ht : TabAt 1 Lib.deBruijn64tab w) : Calls Tryd.prog 20 #[v] w (RI (leastC p) w) := by
  have Hv := Lib.hid hv
  have Ht := Lib.hid ht
  clear hv ht
  by_cases h0 : 0 < (lenC p).length
  · have Hg := Lib.hid (leastC_get h0)
    have H0 := Lib.hid h0
    clear h0
    go_enter Tryd.func20, Tryd.ntmps20
    go_wp2_with (first | (go_at_call 21; refine (coverLengths_c p _ _ Hv.out Ht.out).mono ?_; rintro e w1 ⟨v1, rfl, ho1, hx1⟩; (obtain ⟨g, c, hv1, _, _, _, hcell, _⟩ := ho1.shape H0.out; have hcx := hcell 0 _ Hg.out; obtain ⟨m1, hm1⟩ : ∃ m1, m1 = (lenC p).length := ⟨_, rfl⟩; have hm0 : 1 ≤ m1 := (by have := H0.out; omega); rw [← hm1] at hv1; clear hm1 hcell ho1; subst hv1; have hm00 : ((m1 : Int) == 0) = false := (by rw [beq_eq_false_iff_ne]; omega); have hmi : (1 : Int) ≤ (m1 : Int) := (by omega))))
    go_ret
    exact ⟨rfl, hx1⟩
  · have Hl : Hid (leastC p = 0) := by unfold Hid leastC; cases e : lenC p with
      | nil => rfl
      | cons a t => rw [e] at h0; simp at h0
    have H0 : Hid ((lenC p).length = 0) := by unfold Hid; omega
    clear h0
    go_enter Tryd.func20, Tryd.ntmps20
    go_wp2_with (first | (go_at_call 21; refine (coverLengths_c p _ _ Hv.out Ht.out).mono ?_; rintro e w1 ⟨v1, rfl, ho1, hx1⟩; (obtain ⟨A1, c1, hv1, _, _⟩ := ho1.slice; rw [H0.out] at hv1; subst hv1)))
    go_ret
    exact ⟨by rw [Hl.out]; rfl, hx1⟩
end Go.Proofs.YtpnbcgnbkanebaaDoor
