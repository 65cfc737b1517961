/- Contracts: PolyText on both sides. -/
import Derived.Test.YtnbfcdanpplllaaFmee
import Derived.Test.YtnbfcdanpplllaaByt
import Derived.Test.YtnbfcdanpplllaaFlay
namespace Go.Proofs.Ytnbfcdanpplllaa
open Go.RowKit
/-- the letter of a pulse: on both layers, the first, the second, none -/
def ptC (a b n p : Nat) : Int := if p % (n / a) = 0 then (if p % (n / b) = 0 then 42 else 49) else if p % (n / b) = 0 then 50 else 46
def ptL (a b n j : Nat) : List Int := (List.range j).map fun p => ptC a b n p
theorem ptL_succ (a b n j : Nat) : ptL a b n (j + 1) = ptL a b n j ++ [ptC a b n j] := by simp [ptL, List.range_succ]
theorem ptL_len (a b n j : Nat) : (ptL a b n j).length = j := by simp [ptL]
def ptS (k m : Int) : ByteArray := if cpI k m = 0 then strOfNums [] else strOfNums (ptL k.toNat m.toNat (cpI k m).toNat (cpI k m).toNat)
theorem pt_f {k m : Int} (h : cpI k m = 0) : ptS k m = strOfNums [] := by unfold ptS; rw [if_pos h]
theorem pt_t {a b n : Nat} (h : cpI a b = (n : Int)) (hn : 1 ≤ n) : ptS a b = strOfNums (ptL a b n n) := by unfold ptS; rw [h, if_neg (by omega)]; simp
/-- What a call leaves that hands back a string. -/
def RS (s : ByteArray) (w : World) (e : Ending) (w' : World) : Prop := e = .returned (.string s) ∧ Ext w w'
theorem pad_setI {l : List Int} {n k : Nat} {x : Int} (hl : l.length = k) (hk : k < n) : (l ++ List.replicate (n - k) 0).set k x = l ++ [x] ++ List.replicate (n - (k + 1)) 0 := by
  rw [List.set_append_right _ _ (by omega), hl, Nat.sub_self, show n - k = (n - (k + 1)) + 1 by omega, List.replicate_succ]
  simp
theorem pad_getI {l : List Int} {n k : Nat} (hl : l.length = k) (hk : k < n) : (l ++ List.replicate (n - k) (0 : Int))[k]? = some 0 := by
  rw [List.getElem?_append_right (by omega), hl, Nat.sub_self, List.getElem?_replicate, if_pos (by omega)]
theorem strOfNums_snoc (l : List Int) (x : Int) (s : ByteArray) (hs : s = strOfNums [x]) : strOfNums l ++ s = strOfNums (l ++ [x]) := by rw [hs]; exact strOfNums_app l [x]
set_option maxRecDepth 100000 in
set_option maxHeartbeats 2000000 in
theorem polyText_c (k m : Int) (w : World) : Calls Try.prog 9 #[.int .i64 k, .int .i64 m] w (RS (ptS k m) w) := by
  by_cases h0 : cpI k m = 0
  · have H := Lib.hid (pt_f h0)
    have H0 := Lib.hid h0
    clear h0
    go_enter Try.func9, Try.ntmps9
    go_wp2_with (first | (go_at_call 5; refine (commonPulses_c _ _ _).mono ?_; rintro e w1 ⟨rfl, hx1⟩; rw [H0.out]) | (at_make; refine wp_makeB rfl (.tmp 13) rfl 0 rfl (by omega) (Nat.le_refl _) ?_; intro w2 ho2 hx2; have hst := ho2.string))
    go_loopw [17] (fun i wr => i = .int .i64 0 ∧ wr = w2) (fun _ _ => 0)
    case atStart => exact ⟨rfl, rfl⟩
    case round =>
      obtain ⟨rfl, rfl⟩ := hrel
      go_wp2
      go_ret
      exact ⟨by rw [H.out]; rfl, hx1.tr hx2⟩
  · obtain ⟨a, b, n, rfl, rfl, hn, ha1, ha12, hb1, hb12, hn1, hn24, hd, hd2, -⟩ := cpI_pos h0
    have H := Lib.hid (pt_t hn hn1)
    have H0 := Lib.hid hn
    have Hma : Hid (∀ p, p < n → ((p : Int) % (n : Int) ∈ layN a n a ↔ p % (n / a) = 0)) := fun p hp => by
      rw [Int.emod_eq_of_lt (by omega) (by omega), layN_eq']; exact mem_layL ha1 hn1 hd hp
    have Hmb : Hid (∀ p, p < n → ((p : Int) % (n : Int) ∈ layN b n b ↔ p % (n / b) = 0)) := fun p hp => by
      rw [Int.emod_eq_of_lt (by omega) (by omega), layN_eq']; exact mem_layL hb1 hn1 hd2 hp
    clear h0 hd hd2 hn
    go_enter Try.func9, Try.ntmps9
    go_wp2_with (first | (go_at_call 5; refine (commonPulses_c _ _ _).mono ?_; rintro e w1 ⟨rfl, hx1⟩; rw [H0.out]) | (at_make; refine wp_makeB rfl (.tmp 13) rfl n rfl (by omega) (Nat.le_refl _) ?_; intro w2 ho2 hx2; have Ho2 := Lib.hid ho2; have Hx2 := Lib.hid hx2; clear ho2 hx2))
    go_loopw [17] (fun i wr => ∃ j : Nat, j ≤ n ∧ i = .int .i64 j ∧ Hid (OwnB wr w1.heap.size (.slice (some ⟨w1.heap.size, 0, none⟩) n n) (ptL a b n j ++ List.replicate (n - j) 0) ∧ Ext w1 wr)) (fun i _ => n - (intOf i).toNat)
    case atStart => exact ⟨0, Nat.zero_le _, rfl, by simpa [ptL, Hid] using Ho2.out, Hx2.out⟩
    case round =>
      obtain ⟨j, hj, rfl, hr⟩ := hrel
      by_cases hjn : j < n
      · have hjn2 : (j : Int) < (n : Int) := by omega
        have hn' : 1 ≤ n ∧ n ≤ 1000 := by omega
        by_cases h1 : j % (n / a) = 0
        · by_cases h2 : j % (n / b) = 0
          · have hc : ptC a b n j = 42 := by unfold ptC; rw [if_pos h1, if_pos h2]
            have Hc := Lib.hid hc
            have H1 := Lib.hid h1
            have H2 := Lib.hid h2
            clear hc h1 h2
            have tok : True := trivial
            go_wp2_with (first | (go_at_call 22; clear tok; refine (layer_c a n _ (by omega) (by omega) (by omega)).mono ?_; rintro e w3 ⟨u3, rfl, ho3, hx3⟩; (obtain ⟨A3, n3, c3, rfl⟩ := ho3.form)))
            have tok : True := trivial
            go_wp2_with (first | (go_at_call 24; clear tok; refine (has_c n (layN a n a) (j : Int) _ _ ho3.ints hn').mono ?_; rintro e w4 ⟨b4, rfl, hb4, hx4⟩; (rw [Hma.out j hjn] at hb4; obtain rfl := hb4.2 H1.out; clear hb4)))
            have tok : True := trivial
            go_wp2_with (first | (go_at_call 22; clear tok; refine (layer_c b n _ (by omega) (by omega) (by omega)).mono ?_; rintro e w5 ⟨u5, rfl, ho5, hx5⟩; (obtain ⟨A5, n5, c5, rfl⟩ := ho5.form)))
            have tok : True := trivial
            go_wp2_with (first | (go_at_call 24; clear tok; refine (has_c n (layN b n b) (j : Int) _ _ ho5.ints hn').mono ?_; rintro e w6 ⟨b6, rfl, hb6, hx6⟩; (rw [Hmb.out j hjn] at hb6; obtain rfl := hb6.2 H2.out; clear hb6; have Hx6 := Lib.hid (hx3.tr (hx4.tr (hx5.tr hx6))); have Hown := Lib.hid (hr.out.1.ext Hx6.out); have hcj := Hown.out.cell (pad_getI (ptL_len a b n j) hjn); have hfj := Hown.out.free j; have Hst := Lib.hid (Hown.out.stored j 42))))
            go_roundw
            case rel =>
              have h9 := Hst.out.1
              have e9 := ptL_succ a b n j
              rw [Hc.out] at e9
              rw [pad_setI (ptL_len a b n j) hjn, ← e9] at h9
              exact ⟨j + 1, by omega, by go_num, h9, (hr.out.2.tr Hx6.out).grown Hst.out.2 (hr.out.2.tr Hx6.out).size fun k hk => by cases hk; exact Nat.le_refl _⟩
            case measure => simp [intOf]; omega
          · have hc : ptC a b n j = 49 := by unfold ptC; rw [if_pos h1, if_neg h2]
            have Hc := Lib.hid hc
            have H1 := Lib.hid h1
            have H2 := Lib.hid h2
            clear hc h1 h2
            have tok : True := trivial
            go_wp2_with (first | (go_at_call 22; clear tok; refine (layer_c a n _ (by omega) (by omega) (by omega)).mono ?_; rintro e w3 ⟨u3, rfl, ho3, hx3⟩; (obtain ⟨A3, n3, c3, rfl⟩ := ho3.form)))
            have tok : True := trivial
            go_wp2_with (first | (go_at_call 24; clear tok; refine (has_c n (layN a n a) (j : Int) _ _ ho3.ints hn').mono ?_; rintro e w4 ⟨b4, rfl, hb4, hx4⟩; (rw [Hma.out j hjn] at hb4; obtain rfl := hb4.2 H1.out; clear hb4)))
            have tok : True := trivial
            go_wp2_with (first | (go_at_call 22; clear tok; refine (layer_c b n _ (by omega) (by omega) (by omega)).mono ?_; rintro e w5 ⟨u5, rfl, ho5, hx5⟩; (obtain ⟨A5, n5, c5, rfl⟩ := ho5.form)))
            have tok : True := trivial
            go_wp2_with (first | (go_at_call 24; clear tok; refine (has_c n (layN b n b) (j : Int) _ _ ho5.ints hn').mono ?_; rintro e w6 ⟨b6, rfl, hb6, hx6⟩; (rw [Hmb.out j hjn] at hb6; obtain rfl := bool_f hb6 H2.out; clear hb6; have Hx6 := Lib.hid (hx3.tr (hx4.tr (hx5.tr hx6))); have Hown := Lib.hid (hr.out.1.ext Hx6.out); have hcj := Hown.out.cell (pad_getI (ptL_len a b n j) hjn); have hfj := Hown.out.free j; have Hst := Lib.hid (Hown.out.stored j 49))))
            go_roundw
            case rel =>
              have h9 := Hst.out.1
              have e9 := ptL_succ a b n j
              rw [Hc.out] at e9
              rw [pad_setI (ptL_len a b n j) hjn, ← e9] at h9
              exact ⟨j + 1, by omega, by go_num, h9, (hr.out.2.tr Hx6.out).grown Hst.out.2 (hr.out.2.tr Hx6.out).size fun k hk => by cases hk; exact Nat.le_refl _⟩
            case measure => simp [intOf]; omega
        · by_cases h2 : j % (n / b) = 0
          · have hc : ptC a b n j = 50 := by unfold ptC; rw [if_neg h1, if_pos h2]
            have Hc := Lib.hid hc
            have H1 := Lib.hid h1
            have H2 := Lib.hid h2
            clear hc h1 h2
            have tok : True := trivial
            go_wp2_with (first | (go_at_call 22; clear tok; refine (layer_c a n _ (by omega) (by omega) (by omega)).mono ?_; rintro e w3 ⟨u3, rfl, ho3, hx3⟩; (obtain ⟨A3, n3, c3, rfl⟩ := ho3.form)))
            have tok : True := trivial
            go_wp2_with (first | (go_at_call 24; clear tok; refine (has_c n (layN a n a) (j : Int) _ _ ho3.ints hn').mono ?_; rintro e w4 ⟨b4, rfl, hb4, hx4⟩; (rw [Hma.out j hjn] at hb4; obtain rfl := bool_f hb4 H1.out; clear hb4)))
            have tok : True := trivial
            go_wp2_with (first | (go_at_call 22; clear tok; refine (layer_c b n _ (by omega) (by omega) (by omega)).mono ?_; rintro e w5 ⟨u5, rfl, ho5, hx5⟩; (obtain ⟨A5, n5, c5, rfl⟩ := ho5.form)))
            have tok : True := trivial
            go_wp2_with (first | (go_at_call 24; clear tok; refine (has_c n (layN b n b) (j : Int) _ _ ho5.ints hn').mono ?_; rintro e w6 ⟨b6, rfl, hb6, hx6⟩; (rw [Hmb.out j hjn] at hb6; obtain rfl := hb6.2 H2.out; clear hb6; have Hx6 := Lib.hid (hx3.tr (hx4.tr (hx5.tr hx6))); have Hown := Lib.hid (hr.out.1.ext Hx6.out); have hcj := Hown.out.cell (pad_getI (ptL_len a b n j) hjn); have hfj := Hown.out.free j; have Hst := Lib.hid (Hown.out.stored j 50))))
            go_roundw
            case rel =>
              have h9 := Hst.out.1
              have e9 := ptL_succ a b n j
              rw [Hc.out] at e9
              rw [pad_setI (ptL_len a b n j) hjn, ← e9] at h9
              exact ⟨j + 1, by omega, by go_num, h9, (hr.out.2.tr Hx6.out).grown Hst.out.2 (hr.out.2.tr Hx6.out).size fun k hk => by cases hk; exact Nat.le_refl _⟩
            case measure => simp [intOf]; omega
          · have hc : ptC a b n j = 46 := by unfold ptC; rw [if_neg h1, if_neg h2]
            have Hc := Lib.hid hc
            have H1 := Lib.hid h1
            have H2 := Lib.hid h2
            clear hc h1 h2
            have tok : True := trivial
            go_wp2_with (first | (go_at_call 22; clear tok; refine (layer_c a n _ (by omega) (by omega) (by omega)).mono ?_; rintro e w3 ⟨u3, rfl, ho3, hx3⟩; (obtain ⟨A3, n3, c3, rfl⟩ := ho3.form)))
            have tok : True := trivial
            go_wp2_with (first | (go_at_call 24; clear tok; refine (has_c n (layN a n a) (j : Int) _ _ ho3.ints hn').mono ?_; rintro e w4 ⟨b4, rfl, hb4, hx4⟩; (rw [Hma.out j hjn] at hb4; obtain rfl := bool_f hb4 H1.out; clear hb4)))
            have tok : True := trivial
            go_wp2_with (first | (go_at_call 22; clear tok; refine (layer_c b n _ (by omega) (by omega) (by omega)).mono ?_; rintro e w5 ⟨u5, rfl, ho5, hx5⟩; (obtain ⟨A5, n5, c5, rfl⟩ := ho5.form)))
            have tok : True := trivial
            go_wp2_with (first | (go_at_call 24; clear tok; refine (has_c n (layN b n b) (j : Int) _ _ ho5.ints hn').mono ?_; rintro e w6 ⟨b6, rfl, hb6, hx6⟩; (rw [Hmb.out j hjn] at hb6; obtain rfl := bool_f hb6 H2.out; clear hb6; have Hx6 := Lib.hid (hx3.tr (hx4.tr (hx5.tr hx6))); have Hown := Lib.hid (hr.out.1.ext Hx6.out); have hcj := Hown.out.cell (pad_getI (ptL_len a b n j) hjn); have hfj := Hown.out.free j; have Hst := Lib.hid (Hown.out.stored j 46))))
            go_roundw
            case rel =>
              have h9 := Hst.out.1
              have e9 := ptL_succ a b n j
              rw [Hc.out] at e9
              rw [pad_setI (ptL_len a b n j) hjn, ← e9] at h9
              exact ⟨j + 1, by omega, by go_num, h9, (hr.out.2.tr Hx6.out).grown Hst.out.2 (hr.out.2.tr Hx6.out).size fun k hk => by cases hk; exact Nat.le_refl _⟩
            case measure => simp [intOf]; omega
      · obtain rfl : j = n := by omega
        have hst := hr.out.1.string
        have hp : Hid (ptL a b j j ++ List.replicate (j - j) 0 = ptL a b j j) := by simp [Hid]
        rw [hp.out] at hst
        go_wp2
        go_ret
        exact ⟨by rw [H.out]; rfl, hx1.tr hr.out.2⟩
end Go.Proofs.Ytnbfcdanpplllaa
