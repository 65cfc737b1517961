/- Contracts: l18Unit; BeginsOf on both sides. -/
import Derived.Test.YtblkddjljncggaaFmet
import Derived.Test.YtblkddjljncggaaFlay
import Derived.Outline
namespace Go.Proofs.Ytblkddjljncggaa
open Go.RowKit
theorem Ints.takeN {w : World} {ad : Addr} {n c : Nat} {l : List Int} (h : Ints w (.slice (some ad) n c) l) {k : Nat} (hk : k ≤ l.length) : Ints w (.slice (some ad) k c) (l.take k) := by
  obtain ⟨A, c', he, h1, h2, h3⟩ := h
  simp only [Value.slice.injEq] at he
  obtain ⟨rfl, rfl, rfl⟩ := he
  refine ⟨some ad, c, by rw [List.length_take, Nat.min_eq_left hk], by rw [List.length_take]; omega, h2, fun j x hx => ?_⟩
  rw [List.getElem?_take] at hx
  split at hx
  · exact h3 j x hx
  · cases hx
theorem Ints.dropN {w : World} {ad : Addr} {n c : Nat} {l : List Int} (h : Ints w (.slice (some ad) n c) l) {k : Nat} (hk : k ≤ l.length) : Ints w (.slice (some (ad.add k)) (n - k) (c - k)) (l.drop k) := by
  obtain ⟨A, c', he, h1, h2, h3⟩ := h
  simp only [Value.slice.injEq] at he
  obtain ⟨rfl, rfl, rfl⟩ := he
  refine ⟨some (ad.add k), c - k, by rw [List.length_drop], by rw [List.length_drop]; omega, by omega, fun j x hx => ?_⟩
  rw [List.getElem?_drop] at hx
  obtain ⟨hi, ad', he, hc⟩ := h3 (k + j) x hx
  cases he
  refine ⟨hi, _, rfl, ?_⟩
  rw [← hc]
  congr 1
  unfold Addr.add
  by_cases hk0 : k = 0
  · subst hk0; simp
  · by_cases hj0 : j = 0
    · subst hj0; simp [hk0]
    · simp [hk0, hj0]; omega
theorem foldl_mul (l : List Int) : ∀ a : Int, l.foldl (· * ·) a = a * prodL l := by
  unfold prodL
  induction l with
  | nil => intro a; simp
  | cons x t ih => intro a; rw [List.foldl_cons, List.foldl_cons, ih (a * x), ih (1 * x), Int.one_mul, Int.mul_assoc]
theorem prodL_app (l m : List Int) : prodL (l ++ m) = prodL l * prodL m := by
  show (l ++ m).foldl (· * ·) 1 = _
  rw [List.foldl_append, foldl_mul]
  rfl
theorem prodL_split (l : List Int) (k : Nat) : prodL l = prodL (l.take k) * prodL (l.drop k) := by
  rw [← prodL_app, List.take_append_drop]
theorem l18Unit_c (l : List Int) (i : Nat) (v : Value) (w : World) (hv : Ints w v l) (hs : Small l) (hi : i < l.length) : Calls Try.prog 47 #[v, .int .i64 i] w fun e w' => e = .returned (.int .i64 (prodL (l.drop (i + 1)))) ∧ w = w' := by
  obtain ⟨ad, c, hve, hlc, hcm⟩ := hv.form (by omega)
  obtain ⟨n, hn⟩ : ∃ n, n = l.length := ⟨_, rfl⟩
  rw [← hn] at hve hlc hi
  subst hve
  have hl5 : n ≤ 5 := by rw [hn]; exact hs.1
  have hd := hv.dropN (k := i + 1) (by omega)
  rw [show ad.add (i + 1) = ⟨ad.block, ad.off + (i + 1), none⟩ by unfold Addr.add; simp] at hd
  have Hd := Lib.hid hd
  clear hd
  have Hs := Lib.hid (hs.drop (i + 1))
  have hii : (0 : Int) ≤ (i : Int) + 1 ∧ (i : Int) + 1 ≤ (n : Int) ∧ (n : Int) ≤ (c : Int) := by omega
  have hin : ((i : Int) + 1).toNat = i + 1 := by omega
  have Hnil : Hid (i + 1 = n → l.drop (i + 1) = []) := fun h => List.drop_of_length_le (by omega)
  clear hn hv hs
  by_cases hc : c = i + 1
  · have Hz : Hid (Ints w (.slice (some ad) 0 0) (l.drop (i + 1))) := by
      have h1 : i + 1 = n := by omega
      refine ⟨some ad, 0, by rw [Hnil.out h1]; rfl, by rw [Hnil.out h1]; exact Nat.le_refl _, Nat.zero_le _, fun k x hx => ?_⟩
      rw [Hnil.out h1] at hx; simp at hx
    have hnc : n = i + 1 := by omega
    subst hc
    go_enter Try.func47, Try.ntmps47
    go_wp2_with (first | (go_at_call 46; refine (l18Size_c (l.drop (i + 1)) _ _ Hz.out Hs.out).mono ?_; rintro e wz ⟨rfl, rfl⟩))
    go_ret
    exact ⟨rfl, rfl⟩
  · have hc' : ¬ i + 1 = c := fun h => hc h.symm
    go_enter Try.func47, Try.ntmps47
    go_wp2_with (first | (go_at_call 46; refine (l18Size_c (l.drop (i + 1)) _ _ Hd.out Hs.out).mono ?_; rintro e wz ⟨rfl, rfl⟩))
    go_ret
    exact ⟨rfl, rfl⟩
def bgOk (l : List Int) (i : Int) : Prop := MetOk l ∧ 0 ≤ i ∧ i < l.length
instance (l : List Int) (i : Int) : Decidable (bgOk l i) := by unfold bgOk; infer_instance
def bgB (l : List Int) (i : Int) : Bool := decide (bgOk l i)
def bgN (l : List Int) (i : Int) : Int := if bgOk l i then prodL l else 0
def bgL (l : List Int) (i : Int) : List Int := if bgOk l i then layN (prodL (l.take (i.toNat + 1))).toNat (prodL l).toNat (prodL (l.take (i.toNat + 1))).toNat else []
theorem bg_f {l : List Int} {i : Int} (h : ¬ bgOk l i) : bgB l i = false ∧ bgN l i = 0 ∧ bgL l i = [] := by
  unfold bgB bgN bgL
  rw [if_neg h, if_neg h]
  exact ⟨by simpa using h, rfl, rfl⟩
/-- a beginning's product, and how it divides the whole -/
theorem bg_nums {l : List Int} {i : Nat} (h : MetOk l) (hi : i < l.length) : ∃ a b u : Nat, prodL (l.take (i + 1)) = a ∧ prodL l = b ∧ prodL (l.drop (i + 1)) = u ∧ 1 ≤ a ∧ a ≤ 24 ∧ 1 ≤ u ∧ u ≤ 24 ∧ 1 ≤ b ∧ b ≤ 24 ∧ b = a * u := by
  have h1 := (h.small.take (i + 1)).prod
  have h2 := (h.small.drop (i + 1)).prod
  have h3 := h.small.prod
  have h4 := h.2.2
  have h5 := prodL_split l (i + 1)
  obtain ⟨a, ha⟩ := Int.eq_ofNat_of_zero_le (show 0 ≤ prodL (l.take (i + 1)) by omega)
  obtain ⟨b, hb⟩ := Int.eq_ofNat_of_zero_le (show 0 ≤ prodL l by omega)
  obtain ⟨u, hu⟩ := Int.eq_ofNat_of_zero_le (show 0 ≤ prodL (l.drop (i + 1)) by omega)
  rw [ha, hb, hu] at h5
  have h6 : b = a * u := by rw [← Int.natCast_mul] at h5; omega
  have h7 : a * 1 ≤ a * u := Nat.mul_le_mul_left a (by omega)
  have h8 : 1 * u ≤ a * u := Nat.mul_le_mul_right u (by omega)
  exact ⟨a, b, u, ha, hb, hu, by omega, by omega, by omega, by omega, by omega, by omega, h6⟩
theorem bg_t {l : List Int} {i : Nat} {a b : Nat} (h : MetOk l) (hi : i < l.length) (ha : prodL (l.take (i + 1)) = a) (hb : prodL l = b) : bgB l i = true ∧ bgN l i = b ∧ bgL l i = layN a b a := by
  have h1 : bgOk l i := ⟨h, by omega, by omega⟩
  unfold bgB bgN bgL
  rw [if_pos h1, if_pos h1, Int.toNat_natCast, ha, hb]
  exact ⟨by simpa using h1, rfl, by simp⟩
theorem bgL_len (l : List Int) (i : Int) : (bgL l i).length ≤ 1000000 := by
  unfold bgL
  split
  · rename_i h
    obtain ⟨i, rfl⟩ := Int.eq_ofNat_of_zero_le h.2.1
    obtain ⟨a, b, u, ha, hb, hu, h1, h2, _⟩ := bg_nums (i := i) h.1 (by have := h.2.2; omega)
    rw [layN_len, Int.toNat_natCast, ha]; omega
  · exact Nat.zero_le _
theorem beginsOf_c (l : List Int) (i : Int) (v : Value) (w : World) (hv : Ints w v l) : Calls Try.prog 29 #[v, .int .i64 i] w (RRB (bgN l i) (bgL l i) (bgB l i) w) := by
  have hv0 := RVar.new (T := 24) w 0 (.slice none 0 0)
  have hx0 := one_box w (.cells #[.int .i64 0, .slice none 0 0] 24)
  by_cases hm : MetOk l
  · by_cases hi : 0 ≤ i ∧ i < l.length
    · obtain ⟨i, rfl⟩ := Int.eq_ofNat_of_zero_le hi.1
      have hil : i < l.length := by omega
      obtain ⟨ad, c, hve, hlc, hcm⟩ := hv.form (by omega)
      obtain ⟨n, hn⟩ : ∃ n, n = l.length := ⟨_, rfl⟩
      rw [← hn] at hve hlc
      subst hve
      obtain ⟨a, b, u, ha, hb, hu, ha1, ha24, hu1, hu24, hb1, hb24, hbu⟩ := bg_nums hm hil
      have H := Lib.hid (bg_t hm hil ha hb)
      have Hv := Lib.hid (hv.ext hx0)
      have Ht := Lib.hid ((hv.takeN (k := i + 1) (by omega)).ext hx0)
      have Hm := Lib.hid hm
      have Hs := Lib.hid hm.small
      have Hst := Lib.hid (hm.small.take (i + 1))
      have Ha := Lib.hid ha
      have Hb := Lib.hid hb
      have hl5 := hm.1.2
      have hin : ((i : Int) + 1).toNat = i + 1 := by omega
      have hii : (0 : Int) ≤ (i : Int) + 1 ∧ (i : Int) + 1 ≤ (n : Int) ∧ (n : Int) ≤ (c : Int) := by omega
      have hi1 : 0 ≤ (i : Int) ∧ (i : Int) ≤ (n : Int) - 1 := by omega
      have hn5 : n ≤ 5 := by omega
      have hz := hv0.lt
      clear hm hi hil hn hv ha hb hu hbu
      go_enter Try.func29, Try.ntmps29
      go_wp2_with (first | (go_at_call 38; refine (within_t _ ?_).mono ?_; (focus omega); rintro e w1 ⟨rfl, rfl⟩) | (go_at_call 38; refine (within_f _ ?_).mono ?_; (focus omega); rintro e w1 ⟨rfl, rfl⟩) | (go_at_call 48; refine (meterOk_c l _ _ Hv.out).mono ?_; rintro e w1 ⟨b1, rfl, hbm, hx1⟩; obtain rfl := hbm.2 Hm.out; clear hbm))
      have tok : True := trivial
      go_wp2_with (first | (go_at_call 50; clear tok; refine (product_c (l.take (i + 1)) _ _ (Ht.out.ext hx1) Hst.out).mono ?_; rintro e wz ⟨rfl, rfl⟩; rw [Ha.out]))
      have tok : True := trivial
      go_wp2_with (first | (go_at_call 50; clear tok; refine (product_c l _ _ (Hv.out.ext hx1) Hs.out).mono ?_; rintro e wz ⟨rfl, rfl⟩; rw [Hb.out]) | (go_at_call 39; refine (layer_c a b _ (by omega) (by omega) (by omega)).mono ?_; rintro e w2 ⟨u2, rfl, ho2, hx2⟩; obtain ⟨Au, nu, cu, rfl⟩ := ho2.form; have hx3 := Ext.tr hx1 hx2; have hx4 := Ext.tr hx0 hx3; have hz3 := Nat.lt_of_lt_of_le hz hx1.size; have Hr := Lib.hid (ret_fin (n := (b : Int)) (hv0.ext hx3) ho2 hz3 hx4); have hd0 := (hv0.ext hx3).c0; have hf0 := (hv0.ext hx3).f 0; have hd1 := ((hv0.ext hx3).set0 (m := (b : Int))).c1; have hf1 := ((hv0.ext hx3).set0 (m := (b : Int))).f 1))
      have hcf0 := Hr.out.1.c0
      have hcf1 := Hr.out.1.c1
      exact bodyPost_ret (v := .tuple #[.agg #[.int .i64 b, .slice Au nu cu], .bool true]) (by simp [results, Try.results29, hcf0, hcf1, go_sem]) rfl ⟨_, by rw [H.out.1, H.out.2.1], by rw [H.out.2.2]; exact Hr.out.2.1, Hr.out.2.2⟩
    · have H := Lib.hid (bg_f (l := l) (i := i) (fun h => hi h.2))
      obtain ⟨A, c, hve, hlc, hcm⟩ := hv.form0
      have hlp := hm.1
      obtain ⟨n, hn⟩ : ∃ n, n = l.length := ⟨_, rfl⟩
      rw [← hn] at hve hlc hi hlp
      subst hve
      have Hv := Lib.hid (hv.ext hx0)
      have Hm := Lib.hid hm
      have hi2 : ¬ (0 ≤ i ∧ i ≤ (n : Int) - 1) := by omega
      clear hm hi hn hv
      go_enter Try.func29, Try.ntmps29
      go_wp2_with (first | (go_at_call 38; refine (within_t _ ?_).mono ?_; (focus omega); rintro e w1 ⟨rfl, rfl⟩) | (go_at_call 38; refine (within_f _ ?_).mono ?_; (focus omega); rintro e w1 ⟨rfl, rfl⟩) | (go_at_call 48; refine (meterOk_c l _ _ Hv.out).mono ?_; rintro e w1 ⟨b1, rfl, hbm, hx1⟩; obtain rfl := hbm.2 Hm.out; clear hbm; have hd0 := (hv0.ext hx1).c0; have hf0 := (hv0.ext hx1).f 0; have hd1 := ((hv0.ext hx1).set0 (m := 0)).c1; have hf1 := ((hv0.ext hx1).set0 (m := 0)).f 1; have Hr := Lib.hid (ret_fin (n := 0) (B := w.heap.size + 1) (hv0.ext hx1) (Own.nil _ _) (Nat.le_refl _) (Ext.tr hx0 hx1))))
      have hcf0 := Hr.out.1.c0
      have hcf1 := Hr.out.1.c1
      exact bodyPost_ret (v := .tuple #[.agg #[.int .i64 0, .slice none 0 0], .bool false]) (by simp [results, Try.results29, hcf0, hcf1, go_sem]) rfl ⟨_, by rw [H.out.1, H.out.2.1], by rw [H.out.2.2]; exact Hr.out.2.1, Hr.out.2.2⟩
  · have H := Lib.hid (bg_f (l := l) (i := i) (fun h => hm h.1))
    have Hv := Lib.hid (hv.ext hx0)
    have Hm := Lib.hid hm
    clear hm hv
    go_enter Try.func29, Try.ntmps29
    go_wp2_with (first | (go_at_call 48; refine (meterOk_c l _ _ Hv.out).mono ?_; rintro e w1 ⟨b1, rfl, hbm, hx1⟩; obtain rfl := bool_f hbm Hm.out; clear hbm; have hd0 := (hv0.ext hx1).c0; have hf0 := (hv0.ext hx1).f 0; have hd1 := ((hv0.ext hx1).set0 (m := 0)).c1; have hf1 := ((hv0.ext hx1).set0 (m := 0)).f 1; have Hr := Lib.hid (ret_fin (n := 0) (B := w.heap.size + 1) (hv0.ext hx1) (Own.nil _ _) (Nat.le_refl _) (Ext.tr hx0 hx1))))
    have hcf0 := Hr.out.1.c0
    have hcf1 := Hr.out.1.c1
    exact bodyPost_ret (v := .tuple #[.agg #[.int .i64 0, .slice none 0 0], .bool false]) (by simp [results, Try.results29, hcf0, hcf1, go_sem]) rfl ⟨_, by rw [H.out.1, H.out.2.1], by rw [H.out.2.2]; exact Hr.out.2.1, Hr.out.2.2⟩
theorem specBeginsOf_c (l : List Int) (i : Int) (v : Value) (w : World) (hv : Ints w v l) : Calls Try.prog 28 #[v, .int .i64 i] w (RRB (bgN l i) (bgL l i) (bgB l i) w) := by
  have hv0 := RVar.new (T := 24) w 0 (.slice none 0 0)
  have hx0 := one_box w (.cells #[.int .i64 0, .slice none 0 0] 24)
  by_cases hm : MetOk l
  · by_cases hi : 0 ≤ i ∧ i < l.length
    · obtain ⟨i, rfl⟩ := Int.eq_ofNat_of_zero_le hi.1
      have hil : i < l.length := by omega
      have Hil := Lib.hid hil
      obtain ⟨ad, c, hve, hlc, hcm⟩ := hv.form (by omega)
      obtain ⟨n, hn⟩ : ∃ n, n = l.length := ⟨_, rfl⟩
      rw [← hn] at hve hlc
      subst hve
      obtain ⟨a, b, u, ha, hb, hu, ha1, ha24, hu1, hu24, hb1, hb24, hbu⟩ := bg_nums hm hil
      have hdiv : b / u = a := by rw [hbu]; exact Nat.mul_div_cancel _ (by omega)
      have hmod : b % a = 0 := by rw [hbu]; exact Nat.mul_mod_right _ _
      have hlk : lyrOk (a : Int) (b : Int) := ⟨by omega, by omega, by omega⟩
      have hL := lyr_t hlk
      have H := Lib.hid (bg_t hm hil ha hb)
      have HL := Lib.hid hL
      have Hv := Lib.hid (hv.ext hx0)
      have Hm := Lib.hid hm
      have Hs := Lib.hid hm.small
      have Hb := Lib.hid hb
      have Hu := Lib.hid hu
      have hl5 := hm.1.2
      have hi1 : 0 ≤ (i : Int) ∧ (i : Int) ≤ (n : Int) - 1 := by omega
      have hn5 : n ≤ 5 := by omega
      have hu0 : ¬ u = 0 := by omega
      have hu1i : (1 : Int) ≤ (u : Int) := by omega
      have hdi : (b : Int) / (u : Int) = (a : Int) := by rw [← Int.natCast_ediv, hdiv]
      have hz := hv0.lt
      clear hm hi hil hn hv ha hb hu hbu hdiv hmod hlk hL
      go_enter Try.func28, Try.ntmps28
      go_wp2_with (first | (go_at_call 36; refine (l01In_t _ ?_).mono ?_; (focus omega); rintro e w1 ⟨rfl, rfl⟩) | (go_at_call 36; refine (l01In_f _ ?_).mono ?_; (focus omega); rintro e w1 ⟨rfl, rfl⟩) | (go_at_call 45; refine (specMeterOk_c l _ _ Hv.out).mono ?_; rintro e w1 ⟨b1, rfl, hbm, rfl⟩; obtain rfl := hbm.2 Hm.out; clear hbm) | (go_at_call 46; refine (l18Size_c l _ _ Hv.out Hs.out).mono ?_; rintro e wz ⟨rfl, rfl⟩; rw [Hb.out]) | (go_at_call 47; refine (l18Unit_c l i _ _ Hv.out Hs.out Hil.out).mono ?_; rintro e wz ⟨rfl, rfl⟩; rw [Hu.out]) | (go_at_call 10; refine (specLayerOf_c (a : Int) (b : Int) _).mono ?_; rintro e w2 ⟨u2, rfl, ho2, hx2⟩; rw [HL.out.2.1, HL.out.1]; obtain ⟨Au, nu, cu, rfl⟩ := ho2.form; have hx4 := Ext.tr hx0 hx2; have Hr := Lib.hid (ret_fin (n := (b : Int)) (hv0.ext hx2) ho2 hz hx4); have hd0 := (hv0.ext hx2).c0; have hf0 := (hv0.ext hx2).f 0; have hd1 := ((hv0.ext hx2).set0 (m := (b : Int))).c1; have hf1 := ((hv0.ext hx2).set0 (m := (b : Int))).f 1))
      have hcf0 := Hr.out.1.c0
      have hcf1 := Hr.out.1.c1
      exact bodyPost_ret (v := .tuple #[.agg #[.int .i64 b, .slice Au nu cu], .bool true]) (by simp [results, Try.results28, hcf0, hcf1, go_sem]) rfl ⟨_, by rw [H.out.1, H.out.2.1], by rw [H.out.2.2, ← HL.out.2.2]; exact Hr.out.2.1, Hr.out.2.2⟩
    · have H := Lib.hid (bg_f (l := l) (i := i) (fun h => hi h.2))
      obtain ⟨A, c, hve, hlc, hcm⟩ := hv.form0
      have hlp := hm.1
      obtain ⟨n, hn⟩ : ∃ n, n = l.length := ⟨_, rfl⟩
      rw [← hn] at hve hlc hi hlp
      subst hve
      have Hv := Lib.hid (hv.ext hx0)
      have Hm := Lib.hid hm
      have hi2 : ¬ (0 ≤ i ∧ i ≤ (n : Int) - 1) := by omega
      clear hm hi hn hv
      have hcf0 := hv0.c0
      have hcf1 := hv0.c1
      go_enter Try.func28, Try.ntmps28
      go_wp2_with (first | (go_at_call 36; refine (l01In_t _ ?_).mono ?_; (focus omega); rintro e w1 ⟨rfl, rfl⟩) | (go_at_call 36; refine (l01In_f _ ?_).mono ?_; (focus omega); rintro e w1 ⟨rfl, rfl⟩) | (go_at_call 45; refine (specMeterOk_c l _ _ Hv.out).mono ?_; rintro e w1 ⟨b1, rfl, hbm, rfl⟩; obtain rfl := hbm.2 Hm.out; clear hbm))
      exact bodyPost_ret (v := .tuple #[.agg #[.int .i64 0, .slice none 0 0], .bool false]) (by simp [results, Try.results28, hcf0, hcf1, go_sem]) rfl ⟨_, by rw [H.out.1, H.out.2.1], by rw [H.out.2.2]; exact Own.nil _ _, hx0⟩
  · have H := Lib.hid (bg_f (l := l) (i := i) (fun h => hm h.1))
    have Hv := Lib.hid (hv.ext hx0)
    have Hm := Lib.hid hm
    clear hm hv
    have hcf0 := hv0.c0
    have hcf1 := hv0.c1
    go_enter Try.func28, Try.ntmps28
    go_wp2_with (first | (go_at_call 45; refine (specMeterOk_c l _ _ Hv.out).mono ?_; rintro e w1 ⟨b1, rfl, hbm, rfl⟩; obtain rfl := bool_f hbm Hm.out; clear hbm))
    exact bodyPost_ret (v := .tuple #[.agg #[.int .i64 0, .slice none 0 0], .bool false]) (by simp [results, Try.results28, hcf0, hcf1, go_sem]) rfl ⟨_, by rw [H.out.1, H.out.2.1], by rw [H.out.2.2]; exact Own.nil _ _, hx0⟩
end Go.Proofs.Ytblkddjljncggaa
