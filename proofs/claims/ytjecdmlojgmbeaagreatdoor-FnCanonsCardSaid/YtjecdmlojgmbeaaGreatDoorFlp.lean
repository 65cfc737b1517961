/- Contracts: LineOf on both sides. -/
import Derived.Test.YtjecdmlojgmbeaaGreatDoorFlo
namespace Go.Proofs.YtjecdmlojgmbeaaGreatDoor
open Go.RowKit
/-- what a line bears on a pulse with these voices -/
def lnC (vs : List Int) : Int := if vs.length = 0 then -1 else if vs.length = 1 then vs.getD 0 0 else -2
theorem lnC_0 {vs : List Int} (h : vs.length = 0) : lnC vs = -1 := by unfold lnC; rw [if_pos h]
theorem lnC_1 {vs : List Int} {x : Int} (h : vs.length = 1) (hx : vs[0]? = some x) : lnC vs = x := by unfold lnC; rw [if_neg (by omega), if_pos h, getD_of hx]
theorem lnC_2 {vs : List Int} (h0 : ¬ vs.length = 0) (h1 : ¬ vs.length = 1) : lnC vs = -2 := by unfold lnC; rw [if_neg h0, if_neg h1]
def lnUp (n : Nat) (l r : List Int) (j : Nat) : List Int := (List.range j).map fun (t : Nat) => lnC (vsL n l r t)
theorem lnUp_succ (n : Nat) (l r : List Int) (j : Nat) : lnUp n l r (j + 1) = lnUp n l r j ++ [lnC (vsL n l r j)] := by simp [lnUp, List.range_succ]
theorem lnUp_len (n : Nat) (l r : List Int) (j : Nat) : (lnUp n l r j).length = j := by simp [lnUp]
def lnL (n m : Int) (l r : List Int) : List Int := if canOk n m l r then lnUp n.toNat l r n.toNat else []
theorem lnL_t {n : Nat} {m : Int} {l r : List Int} (h : canOk n m l r) : lnL n m l r = lnUp n l r n := by unfold lnL; rw [if_pos h]; simp
theorem lnL_f {n m : Int} {l r : List Int} (h : ¬ canOk n m l r) : lnL n m l r = [] := by unfold lnL; rw [if_neg h]
theorem lnL_len (n m : Int) (l r : List Int) : (lnL n m l r).length ≤ 1000000 := by
  by_cases h : canOk n m l r
  · obtain ⟨nn, rfl, _, h24, _⟩ := h.1.1.nat
    rw [lnL_t h, lnUp_len]; omega
  · rw [lnL_f h]; exact Nat.zero_le _
set_option maxRecDepth 100000 in
set_option maxHeartbeats 2000000 in
theorem lineOf_c (n m : Int) (l r : List Int) (v u : Value) (w : World) (hv : Ints w v l) (hu : Ints w u r) : Calls Tryz.prog 8 #[.agg #[.int .i64 n, v, .int .i64 m, u]] w (RL (lnL n m l r) w) := by
  obtain ⟨A, c, hve, _, _⟩ := hv.form0
  obtain ⟨A', c', hue, _, _⟩ := hu.form0
  obtain ⟨k, hk⟩ : ∃ k, k = l.length := ⟨_, rfl⟩
  obtain ⟨k', hk'⟩ : ∃ k', k' = r.length := ⟨_, rfl⟩
  rw [← hk] at hve
  rw [← hk'] at hue
  subst hve
  subst hue
  have hx := one_box w (.cells #[.int .i64 n, .slice A k c, .int .i64 m, .slice A' k' c'] 29)
  have ha := CVar.new (T := 29) w n (.slice A k c) m (.slice A' k' c')
  have Hk := Lib.hid hk
  have Hk' := Lib.hid hk'
  have Hv := Lib.hid (hv.ext hx)
  have Hu := Lib.hid (hu.ext hx)
  have Hx := Lib.hid hx
  have Ca := Lib.hid ha
  clear hv hu hx hk hk' ha
  have hc0 := Ca.out.c0
  have hc1 := Ca.out.c1
  have hc2 := Ca.out.c2
  have hc3 := Ca.out.c3
  by_cases hs : canOk n m l r
  · have Hs := Lib.hid hs
    obtain ⟨nn, hnn, hn1, hn24, hlen, hl⟩ := hs.1.1.nat
    obtain ⟨nn', hnn', _, _, hlen', hl'⟩ := hs.1.2.1.nat
    have hnm := hs.1.2.2
    subst hnm
    subst hnn
    obtain rfl : nn = nn' := by omega
    have H := Lib.hid (lnL_t hs)
    have hn' : 1 ≤ nn ∧ nn ≤ 24 := ⟨hn1, hn24⟩
    have Hr : Hid (r.length ≤ 24 ∧ ∀ x ∈ r, 0 ≤ x ∧ x ≤ 24) := ⟨by omega, fun x hx => by have := hl' x hx; omega⟩
    clear hs hl hl' hlen hlen'
    go_enter Tryz.func8, Tryz.ntmps8
    go_wp2_with (first | (go_at_call 9; refine (canonOk_c (nn : Int) (nn : Int) l r _ _ _ Hv.out Hu.out).mono ?_; rintro e w3 ⟨b3, rfl, hb3, hx3⟩; (obtain rfl := hb3.2 Hs.out; clear hb3; have hg0 := (Ca.out.ext hx3).c0)))
    clear hc0 hc1 hc2 hc3 hg0
    go_loopw [3, 12] (fun o i wr => ∃ j : Nat, j ≤ nn ∧ i = .int .i64 j ∧ Hid (Own wr w3.heap.size o (lnUp nn l r j) ∧ Ext w3 wr)) (fun _ i _ => nn - (intOf i).toNat)
    case atStart => exact ⟨0, Nat.zero_le _, rfl, Own.nil _ _, Below.refl w3.heap.size w3⟩
    case round =>
      obtain ⟨j, hj, rfl, hrel⟩ := hrel
      have C1 := Lib.hid (Ca.out.ext (hx3.tr hrel.out.2))
      have hc0 := C1.out.c0
      have hc1 := C1.out.c1
      have hc2 := C1.out.c2
      have hc3 := C1.out.c3
      by_cases hjn : j < nn
      · have hjn2 : (j : Int) < (nn : Int) := by omega
        have hol := lnUp_len nn l r j
        have hsz := hrel.out.2.size
        have hvl := vsUp_len nn l r (j : Int) r.length
        obtain ⟨q, hq⟩ : ∃ q, q = (vsL nn l r (j : Int)).length := ⟨_, rfl⟩
        have hq24 : q ≤ 24 := by rw [hq]; unfold vsL; have := Hr.out.1; omega
        have Hq := Lib.hid hq
        have Hn := Lib.hid (lnUp_succ nn l r j)
        by_cases h0 : q = 0
        · have Hc := Lib.hid (lnC_0 (vs := vsL nn l r (j : Int)) (by rw [← hq]; exact h0))
          clear hq hvl
          subst h0
          go_wp2_with (first | (go_at_call 26; refine (voicesAt_c nn (nn : Int) l r (j : Int) _ _ _ (Hv.out.ext (hx3.tr hrel.out.2)) (Hu.out.ext (hx3.tr hrel.out.2)) hn' Hr.out (by omega)).mono ?_; rintro e w5 ⟨v5, rfl, ho5, hx5⟩; (obtain ⟨A5, c5, hv5, _, _⟩ := ho5.slice; rw [← Hq.out] at hv5; subst hv5)) | (at_builtin; refine wp_append1 rfl (.tmp 25) (.tmp 26) rfl rfl rfl (hrel.out.1.ext hx5) (by unfold I64; omega) (by omega) (by have := hx5.size; omega) ?_; intro v' w' ho hg hb hat))
          go_roundw
          case rel =>
            first
              | exact ⟨j + 1, by omega, by go_num, by rw [Hn.out, Hc.out]; exact ho, (hrel.out.2.tr hx5).trans hb⟩
              | ((repeat apply Exists.intro); exact ⟨⟨j + 1, by omega, by go_num, by rw [Hn.out, Hc.out]; exact ho, (hrel.out.2.tr hx5).trans hb⟩, rfl⟩)
          case measure => simp [intOf]; omega
        · by_cases h1 : q = 1
          · obtain ⟨x, hx⟩ : ∃ x, (vsL nn l r (j : Int))[0]? = some x := ⟨_, List.getElem?_eq_getElem (by rw [← hq]; omega)⟩
            have Hc := Lib.hid (lnC_1 (vs := vsL nn l r (j : Int)) (by rw [← hq]; exact h1) hx)
            have Hx1 := Lib.hid hx
            clear hq hvl hx h0
            subst h1
            go_wp2_with (first | (go_at_call 26; refine (voicesAt_c nn (nn : Int) l r (j : Int) _ _ _ (Hv.out.ext (hx3.tr hrel.out.2)) (Hu.out.ext (hx3.tr hrel.out.2)) hn' Hr.out (by omega)).mono ?_; rintro e w5 ⟨v5, rfl, ho5, hx5⟩; (have hxi := ho5.2 x (List.mem_of_getElem? Hx1.out); obtain ⟨g, c5, hv5, _, _, _, hcell, _⟩ := ho5.shape (by rw [← Hq.out]; omega); have hcx := hcell 0 x Hx1.out; rw [← Hq.out] at hv5; clear hcell; subst hv5)) | (at_builtin; refine wp_append1 rfl (.tmp 30) (.tmp 34) rfl rfl rfl (hrel.out.1.ext hx5) hxi (by omega) (by have := hx5.size; omega) ?_; intro v' w' ho hg hb hat))
            go_roundw
            case rel =>
              first
                | exact ⟨j + 1, by omega, by go_num, by rw [Hn.out, Hc.out]; exact ho, (hrel.out.2.tr hx5).trans hb⟩
                | ((repeat apply Exists.intro); exact ⟨⟨j + 1, by omega, by go_num, by rw [Hn.out, Hc.out]; exact ho, (hrel.out.2.tr hx5).trans hb⟩, rfl⟩)
            case measure => simp [intOf]; omega
          · have Hc := Lib.hid (lnC_2 (vs := vsL nn l r (j : Int)) (by rw [← hq]; exact h0) (by rw [← hq]; exact h1))
            have hb0 : ((q : Int) == 0) = false := by rw [beq_eq_false_iff_ne]; omega
            have hb1 : ((q : Int) == 1) = false := by rw [beq_eq_false_iff_ne]; omega
            clear hq hvl h0 h1
            go_wp2_with (first | (go_at_call 26; refine (voicesAt_c nn (nn : Int) l r (j : Int) _ _ _ (Hv.out.ext (hx3.tr hrel.out.2)) (Hu.out.ext (hx3.tr hrel.out.2)) hn' Hr.out (by omega)).mono ?_; rintro e w5 ⟨v5, rfl, ho5, hx5⟩; (obtain ⟨A5, c5, hv5, _, _⟩ := ho5.slice; rw [← Hq.out] at hv5; subst hv5)) | (at_builtin; refine wp_append1 rfl (.tmp 20) (.tmp 21) rfl rfl rfl (hrel.out.1.ext hx5) (by unfold I64; omega) (by omega) (by have := hx5.size; omega) ?_; intro v' w' ho hg hb hat))
            go_roundw
            case rel =>
              first
                | exact ⟨j + 1, by omega, by go_num, by rw [Hn.out, Hc.out]; exact ho, (hrel.out.2.tr hx5).trans hb⟩
                | ((repeat apply Exists.intro); exact ⟨⟨j + 1, by omega, by go_num, by rw [Hn.out, Hc.out]; exact ho, (hrel.out.2.tr hx5).trans hb⟩, rfl⟩)
            case measure => simp [intOf]; omega
      · obtain rfl : j = nn := by omega
        go_wp2
        go_ret
        exact ⟨_, rfl, by rw [H.out]; exact hrel.out.1.base (by have := (Hx.out.tr hx3).size; exact this), Hx.out.tr (hx3.tr hrel.out.2)⟩
  · have H := Lib.hid (lnL_f hs)
    have Hs := Lib.hid hs
    clear hs
    go_enter Tryz.func8, Tryz.ntmps8
    go_wp2_with (first | (go_at_call 9; refine (canonOk_c n m l r _ _ _ Hv.out Hu.out).mono ?_; rintro e w3 ⟨b3, rfl, hb3, hx3⟩; (obtain rfl := bool_f hb3 Hs.out; clear hb3)))
    go_ret
    exact ⟨_, rfl, by rw [H.out]; exact Own.nil _ _, Hx.out.tr hx3⟩
end Go.Proofs.YtjecdmlojgmbeaaGreatDoor
