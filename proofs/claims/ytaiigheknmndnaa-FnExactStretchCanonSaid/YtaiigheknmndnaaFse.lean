/- Contracts: the reference's StretchRhythm and StretchCanon. -/
import Derived.Test.YtaiigheknmndnaaFsd
namespace Go.Proofs.Ytaiigheknmndnaa
open Go.RowKit
def ssOk (n : Int) (l : List Int) (z : Int) : Prop := RhyOk n l ∧ uniOk z n.toNat
instance (n : Int) (l : List Int) (z : Int) : Decidable (ssOk n l z) := by unfold ssOk; infer_instance
def ssB (n : Int) (l : List Int) (z : Int) : Bool := decide (ssOk n l z)
def ssN (n : Int) (l : List Int) (z : Int) : Int := if ssOk n l z then n else 0
def ssL (n : Int) (l : List Int) (z : Int) : List Int := if ssOk n l z then strL n.toNat l z else []
theorem ss_t {n : Nat} {l : List Int} {z : Int} (h : ssOk n l z) : ssB n l z = true ∧ ssN n l z = n ∧ ssL n l z = strL n l z := by
  unfold ssB ssN ssL; rw [if_pos h, if_pos h]; exact ⟨by simpa using h, rfl, by simp⟩
theorem ss_f {n : Int} {l : List Int} {z : Int} (h : ¬ ssOk n l z) : ssB n l z = false ∧ ssN n l z = 0 ∧ ssL n l z = [] := by
  unfold ssB ssN ssL; rw [if_neg h, if_neg h]; exact ⟨by simpa using h, rfl, rfl⟩
set_option maxRecDepth 100000 in
set_option maxHeartbeats 1000000 in
theorem specStretchRhythm_c (n : Int) (l : List Int) (z : Int) (v : Value) (w : World) (hv : Ints w v l) : Calls Try.prog 54 #[.agg #[.int .i64 n, v], .int .i64 z] w (RRB (ssN n l z) (ssL n l z) (ssB n l z) w) := by
  obtain ⟨A, c, hve, _, _⟩ := hv.form0
  obtain ⟨m, hm⟩ : ∃ m, m = l.length := ⟨_, rfl⟩
  rw [← hm] at hve
  subst hve
  have hx := one_box w (.cells #[.int .i64 n, .slice A m c] 29)
  have ha := RVar.new (T := 29) w n (.slice A m c)
  have Hv := Lib.hid (hv.ext hx)
  have Hx := Lib.hid hx
  have Ra := Lib.hid ha
  clear hv hx hm ha
  have hr0 := RVar.new (T := 29) (w.alloc (.cells #[.int .i64 n, .slice A m c] 29)) 0 (.slice none 0 0)
  have hx2 := one_box (w.alloc (.cells #[.int .i64 n, .slice A m c] 29)) (.cells #[.int .i64 0, .slice none 0 0] 29)
  have Rr0 := Lib.hid hr0
  simp only [World.size_alloc] at hr0
  have Rr := Lib.hid hr0
  have Hv2 := Lib.hid (Hv.out.ext hx2)
  have Ra2 := Lib.hid (Ra.out.ext hx2)
  have Hx2 := Lib.hid hx2
  clear hr0 hx2
  have hc0 := Ra2.out.c0
  have hc1 := Ra2.out.c1
  by_cases hr : RhyOk n l
  · have Hro := Lib.hid hr
    obtain ⟨nn, rfl, hn1, hn24, hlen, hl⟩ := hr.nat
    have hni : (1 : Int) ≤ (nn : Int) := by omega
    by_cases hz : 1 ≤ z ∧ z ≤ max 1 ((nn : Int) - 1)
    · obtain ⟨a, rfl⟩ := Int.eq_ofNat_of_zero_le (show 0 ≤ z by omega)
      have ha : a ≤ 100 := by omega
      obtain ⟨g, hg⟩ : ∃ g, g = Nat.gcd a nn := ⟨_, rfl⟩
      have HU : Hid (uniOk a nn ↔ g = 1) := by unfold Hid uniOk; rw [hg]; simp; omega
      have Hg := Lib.hid hg
      have hz1 := hz.1
      have hz2 := hz.2
      clear hg
      by_cases hg1 : g = 1
      · have H := Lib.hid (ss_t (n := nn) (z := (a : Int)) ⟨hr, by simpa using HU.out.2 hg1⟩)
        have hb : ((g : Int) != 1) = false := by simp [hg1]
        have Hl := Lib.hid hl
        have Hlen := Lib.hid hlen
        have hn' : 1 ≤ nn ∧ nn ≤ 24 := ⟨hn1, hn24⟩
        clear hr hl hlen hg1
        go_enter Try.func54, Try.ntmps54
        go_wp2_with (first | (go_at_call 66; refine (specRhythmOk_c (nn : Int) l _ _ Hv2.out).mono ?_; rintro e w3 ⟨b3, rfl, hb3, hx3⟩; obtain rfl := hb3.2 Hro.out; clear hb3; have hd0 := (Ra2.out.ext hx3).c0; have hd1 := (Ra2.out.ext hx3).c1) | (go_at_call 48; refine (l01In_t _ ?_).mono ?_; (focus omega); rintro e w1 ⟨rfl, rfl⟩) | (go_at_call 48; refine (l01In_f _ ?_).mono ?_; (focus omega); rintro e w1 ⟨rfl, rfl⟩) | (go_at_call 82; refine (l02Gcd_c _ _ (by omega) (by omega) _).mono ?_; rintro e w4 ⟨rfl, rfl⟩; rw [← Hg.out]) | (go_at_call 49; refine (l02Map_c nn l (a : Int) 0 _ _ (Hv2.out.ext hx3) hn' Hl.out Hlen.out (by omega) (by omega)).mono ?_; rintro e w5 ⟨v5, rfl, how5, hxw5⟩; (rw [mapL_str] at how5; obtain ⟨Au, nu, cu, rfl⟩ := how5.form; have e0 := (Rr.out.ext (hx3.tr hxw5)).c0; have f0 := (Rr.out.ext (hx3.tr hxw5)).f 0; have e1 := ((Rr.out.ext (hx3.tr hxw5)).set0 (m := (nn : Int))).c1; have f1 := ((Rr.out.ext (hx3.tr hxw5)).set0 (m := (nn : Int))).f 1)))
        have hz3 : w.heap.size + 1 + 1 ≤ w3.heap.size := by have := hx3.size; simp only [World.size_alloc] at this; exact this
        have Hr := Lib.hid (ret_fin (n := (nn : Int)) (Rr0.out.ext (hx3.tr hxw5)) how5 (by simp only [World.size_alloc]; exact hz3) (Hx2.out.tr (hx3.tr hxw5)))
        have hcf0 := Hr.out.1.c0
        have hcf1 := Hr.out.1.c1
        have ho6 := Hr.out.2.1.base (B' := w.heap.size) (by simp)
        have hx6 := Hx.out.tr Hr.out.2.2
        simp only [World.size_alloc] at hcf0 hcf1 ho6 hx6
        exact bodyPost_ret (v := .tuple #[.agg #[.int .i64 nn, .slice Au nu cu], .bool true]) (by simp [results, Try.results54, hcf0, hcf1, go_sem]) rfl ⟨_, by rw [H.out.1, H.out.2.1], by rw [H.out.2.2]; exact ho6, hx6⟩
      · have H := Lib.hid (ss_f (n := (nn : Int)) (l := l) (z := (a : Int)) (fun h => hg1 (HU.out.1 (by simpa using h.2))))
        have hb : ((g : Int) != 1) = true := by rw [bne_iff_ne]; omega
        clear hr hl hlen hg1
        go_enter Try.func54, Try.ntmps54
        go_wp2_with (first | (go_at_call 66; refine (specRhythmOk_c (nn : Int) l _ _ Hv2.out).mono ?_; rintro e w3 ⟨b3, rfl, hb3, hx3⟩; obtain rfl := hb3.2 Hro.out; clear hb3; have hd0 := (Ra2.out.ext hx3).c0; have hd1 := (Ra2.out.ext hx3).c1; have e0 := (Rr.out.ext hx3).c0; have f0 := (Rr.out.ext hx3).f 0; have e1 := ((Rr.out.ext hx3).set0 (m := 0)).c1; have f1 := ((Rr.out.ext hx3).set0 (m := 0)).f 1) | (go_at_call 48; refine (l01In_t _ ?_).mono ?_; (focus omega); rintro e w1 ⟨rfl, rfl⟩) | (go_at_call 48; refine (l01In_f _ ?_).mono ?_; (focus omega); rintro e w1 ⟨rfl, rfl⟩) | (go_at_call 82; refine (l02Gcd_c _ _ (by omega) (by omega) _).mono ?_; rintro e w4 ⟨rfl, rfl⟩; rw [← Hg.out]))
        have Hr := Lib.hid (ret_fin (n := 0) (Rr0.out.ext hx3) (Own.nil _ _) (Nat.le_refl _) (Hx2.out.tr hx3))
        have hcf0 := Hr.out.1.c0
        have hcf1 := Hr.out.1.c1
        have hx6 := Hx.out.tr Hr.out.2.2
        simp only [World.size_alloc] at hcf0 hcf1 hx6
        exact bodyPost_ret (v := .tuple #[.agg #[.int .i64 0, .slice none 0 0], .bool false]) (by simp [results, Try.results54, hcf0, hcf1, go_sem]) rfl ⟨_, by rw [H.out.1, H.out.2.1], by rw [H.out.2.2]; exact Own.nil _ _, hx6⟩
    · have H := Lib.hid (ss_f (n := (nn : Int)) (l := l) (z := z) (fun h => hz ⟨h.2.1, by have := h.2.2.1; simp only [Int.toNat_natCast] at this; omega⟩))
      clear hr hl hlen
      go_enter Try.func54, Try.ntmps54
      go_wp2_with (first | (go_at_call 66; refine (specRhythmOk_c (nn : Int) l _ _ Hv2.out).mono ?_; rintro e w3 ⟨b3, rfl, hb3, hx3⟩; obtain rfl := hb3.2 Hro.out; clear hb3; have hd0 := (Ra2.out.ext hx3).c0; have hd1 := (Ra2.out.ext hx3).c1; have e0 := (Rr.out.ext hx3).c0; have f0 := (Rr.out.ext hx3).f 0; have e1 := ((Rr.out.ext hx3).set0 (m := 0)).c1; have f1 := ((Rr.out.ext hx3).set0 (m := 0)).f 1) | (go_at_call 48; refine (l01In_t _ ?_).mono ?_; (focus omega); rintro e w1 ⟨rfl, rfl⟩) | (go_at_call 48; refine (l01In_f _ ?_).mono ?_; (focus omega); rintro e w1 ⟨rfl, rfl⟩))
      have Hr := Lib.hid (ret_fin (n := 0) (Rr0.out.ext hx3) (Own.nil _ _) (Nat.le_refl _) (Hx2.out.tr hx3))
      have hcf0 := Hr.out.1.c0
      have hcf1 := Hr.out.1.c1
      have hx6 := Hx.out.tr Hr.out.2.2
      simp only [World.size_alloc] at hcf0 hcf1 hx6
      exact bodyPost_ret (v := .tuple #[.agg #[.int .i64 0, .slice none 0 0], .bool false]) (by simp [results, Try.results54, hcf0, hcf1, go_sem]) rfl ⟨_, by rw [H.out.1, H.out.2.1], by rw [H.out.2.2]; exact Own.nil _ _, hx6⟩
  · have Hro := Lib.hid hr
    have H := Lib.hid (ss_f (n := n) (l := l) (z := z) (fun h => hr h.1))
    clear hr
    go_enter Try.func54, Try.ntmps54
    go_wp2_with (first | (go_at_call 66; refine (specRhythmOk_c n l _ _ Hv2.out).mono ?_; rintro e w3 ⟨b3, rfl, hb3, hx3⟩; obtain rfl := bool_f hb3 Hro.out; clear hb3; have e0 := (Rr.out.ext hx3).c0; have f0 := (Rr.out.ext hx3).f 0; have e1 := ((Rr.out.ext hx3).set0 (m := 0)).c1; have f1 := ((Rr.out.ext hx3).set0 (m := 0)).f 1))
    have Hr := Lib.hid (ret_fin (n := 0) (Rr0.out.ext hx3) (Own.nil _ _) (Nat.le_refl _) (Hx2.out.tr hx3))
    have hcf0 := Hr.out.1.c0
    have hcf1 := Hr.out.1.c1
    have hx6 := Hx.out.tr Hr.out.2.2
    simp only [World.size_alloc] at hcf0 hcf1 hx6
    exact bodyPost_ret (v := .tuple #[.agg #[.int .i64 0, .slice none 0 0], .bool false]) (by simp [results, Try.results54, hcf0, hcf1, go_sem]) rfl ⟨_, by rw [H.out.1, H.out.2.1], by rw [H.out.2.2]; exact Own.nil _ _, hx6⟩
set_option maxRecDepth 100000 in
set_option maxHeartbeats 4000000 in
theorem specStretchCanon_c (n m : Int) (l r : List Int) (z : Int) (v u : Value) (w : World) (hv : Ints w v l) (hu : Ints w u r) : Calls Try.prog 30 #[.agg #[.int .i64 n, v, .int .i64 m, u], .int .i64 z] w (RCB (scN n m l r z) (scI n m l r z) (scN n m l r z) (scO n m l r z) (scB n m l r z) w) := by
  obtain ⟨A, c, hve, _, _⟩ := hv.form0
  obtain ⟨A', c', hue, _, _⟩ := hu.form0
  obtain ⟨k, hk⟩ : ∃ k, k = l.length := ⟨_, rfl⟩
  obtain ⟨k', hk'⟩ : ∃ k', k' = r.length := ⟨_, rfl⟩
  rw [← hk] at hve
  rw [← hk'] at hue
  subst hve
  subst hue
  have hx := one_box w (.cells #[.int .i64 n, .slice A k c, .int .i64 m, .slice A' k' c'] 31)
  have ha := CVar.new (T := 31) w n (.slice A k c) m (.slice A' k' c')
  have Hk := Lib.hid hk
  have Hk' := Lib.hid hk'
  have Hv := Lib.hid (hv.ext hx)
  have Hu := Lib.hid (hu.ext hx)
  have Hx := Lib.hid hx
  have Ca := Lib.hid ha
  clear hv hu hx hk hk' ha
  have hr0 := CVar.new (T := 31) (w.alloc (.cells #[.int .i64 n, .slice A k c, .int .i64 m, .slice A' k' c'] 31)) 0 (.slice none 0 0) 0 (.slice none 0 0)
  have hx2 := one_box (w.alloc (.cells #[.int .i64 n, .slice A k c, .int .i64 m, .slice A' k' c'] 31)) (.cells #[.int .i64 0, .slice none 0 0, .int .i64 0, .slice none 0 0] 31)
  simp only [World.size_alloc] at hr0
  have Hr := Lib.hid hr0
  have Hc := Lib.hid (Ca.out.ext hx2)
  have Hv2 := Lib.hid (Hv.out.ext hx2)
  have Hu2 := Lib.hid (Hu.out.ext hx2)
  have Hx2 := Lib.hid (Hx.out.tr hx2)
  have hc0 := Hc.out.c0
  have hc1 := Hc.out.c1
  have hne : w.heap.size ≠ w.heap.size + 1 := by omega
  clear hr0 hx2
  obtain ⟨Pn, hPn⟩ : ∃ y, y = ssN n l z := ⟨_, rfl⟩
  obtain ⟨Pl, hPl⟩ : ∃ y, y = ssL n l z := ⟨_, rfl⟩
  have HPn := Lib.hid hPn
  have HPl := Lib.hid hPl
  clear hPn hPl
  by_cases h1 : ssOk n l z
  · have B1 : Hid (ssB n l z = true) := by unfold Hid ssB; simpa using h1
    by_cases hs : canOk n m l r
    · have Hs := Lib.hid hs
      have hok : scOk n m l r z := ⟨hs, h1.2⟩
      obtain ⟨nn, hnn, hn1, hn24, hlen, hl⟩ := hs.1.1.nat
      obtain ⟨nn', hnn', _, _, hlen', hl'⟩ := hs.1.2.1.nat
      have hnm := hs.1.2.2
      subst hnm
      subst hnn
      obtain rfl : nn = nn' := by omega
      have hn' : 1 ≤ nn ∧ nn ≤ 24 := ⟨hn1, hn24⟩
      have H := Lib.hid (sc_t hok)
      have E1 : Hid (Pn = (nn : Int) ∧ Pl = strL nn l z) := by unfold Hid; rw [HPn.out, HPl.out, (ss_t h1).2.1, (ss_t h1).2.2]; exact ⟨rfl, rfl⟩
      have Hl' := Lib.hid hl'
      have Hlen' := Lib.hid hlen'
      clear h1 hs hok hl hlen hl' hlen'
      go_enter Try.func30, Try.ntmps30
      go_wp2_with (first | (go_at_call 54; refine (specStretchRhythm_c (nn : Int) l z _ _ Hv2.out).mono ?_; rintro e w3 ⟨v3, rfl, ho3, hx3⟩; (rw [← HPn.out, B1.out]; rw [← HPl.out] at ho3; obtain ⟨A3, n3, c3, rfl⟩ := ho3.form; have X3 := Lib.hid (hx3.tr (one_box w3 (.cells #[.int .i64 Pn, .slice A3 n3 c3] 29))); have hd0 := (Hc.out.ext X3.out).c0; have hd1 := (Hc.out.ext X3.out).c1; have hd2 := (Hc.out.ext X3.out).c2; have hd3 := (Hc.out.ext X3.out).c3)) | (go_at_call 44; refine (specCanonOk_c (nn : Int) (nn : Int) l r _ _ _ (Hv2.out.ext X3.out) (Hu2.out.ext X3.out)).mono ?_; rintro e w5 ⟨b5, rfl, hb5, hx5⟩; (obtain rfl := hb5.2 Hs.out; clear hb5)))
      have hz3 : w.heap.size + 1 < w3.heap.size := by have := hx3.size; simp only [World.size_alloc] at this; omega
      have X5 := Lib.hid (X3.out.tr hx5)
      have C5 := Lib.hid (Hc.out.ext X5.out)
      have R5 := Lib.hid (Hr.out.ext X5.out)
      have I5 := Lib.hid ((RVar.new (T := 29) w3 Pn (.slice A3 n3 c3)).ext hx5)
      have hne3 : w3.heap.size ≠ w.heap.size + 1 := by omega
      have i0 := I5.out.c0
      have i1 := I5.out.c1
      have he2 := C5.out.c2
      have he3 := C5.out.c3
      clear hc0 hc1 hd0 hd1 hd2 hd3
      first
        | (go_region_held3 (fun w' => w'.cell? ⟨w3.heap.size, 0, none⟩ = some (.int .i64 Pn) ∧ w'.cell? ⟨w3.heap.size, 1, none⟩ = some (.slice A3 n3 c3) ∧ w'.cell? ⟨w.heap.size, 2, none⟩ = some (.int .i64 nn) ∧ w'.cell? ⟨w.heap.size, 3, none⟩ = some (.slice A' k' c'))
            (first
              | with_reducible exact ⟨(((((I5.out.extD hx6).other hne3).other hne3).other hne3).other hne3).c0, (((((I5.out.extD hx6).other hne3).other hne3).other hne3).other hne3).c1, (((((C5.out.extD hx6).other hne).other hne).other hne).other hne).c2, (((((C5.out.extD hx6).other hne).other hne).other hne).other hne).c3⟩
              | with_reducible exact ⟨(I5.out.extD hx6).c0, (I5.out.extD hx6).c1, (C5.out.extD hx6).c2, (C5.out.extD hx6).c3⟩
              | (go_keep; done)
              | (refine ⟨?_, ?_, ?_, ?_⟩ <;> (go_keep; done)))
            (first
              | (go_at_call 49; refine (l02Map1_c nn r 0 _ _ (Hu2.out.ext X5.out).drew hn' Hl'.out Hlen'.out (by omega)).mono ?_; rintro e w6 ⟨v6, rfl, ho6, hx6⟩; obtain ⟨A6, n6, c6, rfl⟩ := ho6.form; have R6 := Lib.hid (R5.out.extD hx6); have d0 := R6.out.c0; have p0 := R6.out.f 0; have d1 := (R6.out.set0 (k := Pn)).c1; have p1 := (R6.out.set0 (k := Pn)).f 1; have d2 := ((R6.out.set0 (k := Pn)).set1 (x := (.slice A3 n3 c3))).c2; have p2 := ((R6.out.set0 (k := Pn)).set1 (x := (.slice A3 n3 c3))).f 2; have d3 := (((R6.out.set0 (k := Pn)).set1 (x := (.slice A3 n3 c3))).set2 (k := (nn : Int))).c3; have p3 := (((R6.out.set0 (k := Pn)).set1 (x := (.slice A3 n3 c3))).set2 (k := (nn : Int))).f 3)))
        | fail
      all_goals
        have hz5 : w3.heap.size + 1 ≤ w5.heap.size := by have := hx5.size; simp only [World.size_alloc] at this; exact this
        have Hap : Hid (Apart (.slice A3 n3 c3) (.slice A6 n6 c6)) := Own.apart (w1 := w5.drew) ((((ho3.ext (one_box w3 (.cells #[.int .i64 Pn, .slice A3 n3 c3] 29))).ext hx5)).drew) ho6
        have O3 := Lib.hid ((((ho3.ext (one_box w3 (.cells #[.int .i64 Pn, .slice A3 n3 c3] 29))).ext hx5).ext (Ext.ofD hx6)))
        have Fin := Lib.hid (retc_fin (B := w.heap.size + 2) (n := Pn) (m := (nn : Int)) R6.out (O3.out.base (by simp)) (ho6.base (by simp only [World.size_drew]; omega)) (by omega) (Hx2.out.tr (X5.out.tr (Ext.ofD hx6))) (by omega))
        have q0 := Fin.out.1.c0
        have q1 := Fin.out.1.c1
        have q2 := Fin.out.1.c2
        have q3 := Fin.out.1.c3
        go_wp2
        exact bodyPost_ret (v := .tuple #[.agg #[.int .i64 Pn, .slice A3 n3 c3, .int .i64 nn, .slice A6 n6 c6], .bool true]) (by simp [results, Try.results30, q0, q1, q2, q3, go_sem]) rfl ⟨_, _, by rw [H.out.1, H.out.2.1, E1.out.1], by rw [H.out.2.2.1, ← E1.out.2]; exact Fin.out.2.1.base (by omega), by rw [H.out.2.2.2]; exact Fin.out.2.2.1.base (by omega), Hap.out, Fin.out.2.2.2⟩
    · have H := Lib.hid (sc_f (n := n) (m := m) (l := l) (r := r) (z := z) (fun h => hs h.1))
      have Hs := Lib.hid hs
      clear h1 hs
      go_enter Try.func30, Try.ntmps30
      go_wp2_with (first | (go_at_call 54; refine (specStretchRhythm_c n l z _ _ Hv2.out).mono ?_; rintro e w3 ⟨v3, rfl, ho3, hx3⟩; (rw [← HPn.out, B1.out]; rw [← HPl.out] at ho3; obtain ⟨A3, n3, c3, rfl⟩ := ho3.form; have X3 := Lib.hid (hx3.tr (one_box w3 (.cells #[.int .i64 Pn, .slice A3 n3 c3] 29))); have hd0 := (Hc.out.ext X3.out).c0; have hd1 := (Hc.out.ext X3.out).c1; have hd2 := (Hc.out.ext X3.out).c2; have hd3 := (Hc.out.ext X3.out).c3)) | (go_at_call 44; refine (specCanonOk_c n m l r _ _ _ (Hv2.out.ext X3.out) (Hu2.out.ext X3.out)).mono ?_; rintro e w5 ⟨b5, rfl, hb5, hx5⟩; (obtain rfl := bool_f hb5 Hs.out; clear hb5; have R5 := Lib.hid (Hr.out.ext (X3.out.tr hx5)); have d0 := R5.out.c0; have p0 := R5.out.f 0; have d1 := (R5.out.set0 (k := 0)).c1; have p1 := (R5.out.set0 (k := 0)).f 1; have d2 := ((R5.out.set0 (k := 0)).set1 (x := (.slice none 0 0))).c2; have p2 := ((R5.out.set0 (k := 0)).set1 (x := (.slice none 0 0))).f 2; have d3 := (((R5.out.set0 (k := 0)).set1 (x := (.slice none 0 0))).set2 (k := 0)).c3; have p3 := (((R5.out.set0 (k := 0)).set1 (x := (.slice none 0 0))).set2 (k := 0)).f 3)))
      have Fin := Lib.hid (retc_fin (n := 0) (m := 0) (B := w.heap.size + 2) R5.out (Own.nil _ _) (Own.nil _ _) (by omega) (Hx2.out.tr (X3.out.tr hx5)) (by omega))
      have q0 := Fin.out.1.c0
      have q1 := Fin.out.1.c1
      have q2 := Fin.out.1.c2
      have q3 := Fin.out.1.c3
      exact bodyPost_ret (v := .tuple #[.agg #[.int .i64 0, .slice none 0 0, .int .i64 0, .slice none 0 0], .bool false]) (by simp [results, Try.results30, q0, q1, q2, q3, go_sem]) rfl ⟨_, _, by rw [H.out.1, H.out.2.1], by rw [H.out.2.2.1]; exact Own.nil _ _, by rw [H.out.2.2.2]; exact Own.nil _ _, Apart.nil _, Fin.out.2.2.2⟩
  · have B1 : Hid (ssB n l z = false) := by unfold Hid ssB; simpa using h1
    have H := Lib.hid (sc_f (n := n) (m := m) (l := l) (r := r) (z := z) (fun h => h1 ⟨h.1.1.1, h.2⟩))
    clear h1
    go_enter Try.func30, Try.ntmps30
    go_wp2_with (first | (go_at_call 54; refine (specStretchRhythm_c n l z _ _ Hv2.out).mono ?_; rintro e w3 ⟨v3, rfl, ho3, hx3⟩; (rw [← HPn.out, B1.out]; rw [← HPl.out] at ho3; obtain ⟨A3, n3, c3, rfl⟩ := ho3.form; have X3 := Lib.hid (hx3.tr (one_box w3 (.cells #[.int .i64 Pn, .slice A3 n3 c3] 29))); have R3 := Lib.hid (Hr.out.ext X3.out); have d0 := R3.out.c0; have p0 := R3.out.f 0; have d1 := (R3.out.set0 (k := 0)).c1; have p1 := (R3.out.set0 (k := 0)).f 1; have d2 := ((R3.out.set0 (k := 0)).set1 (x := (.slice none 0 0))).c2; have p2 := ((R3.out.set0 (k := 0)).set1 (x := (.slice none 0 0))).f 2; have d3 := (((R3.out.set0 (k := 0)).set1 (x := (.slice none 0 0))).set2 (k := 0)).c3; have p3 := (((R3.out.set0 (k := 0)).set1 (x := (.slice none 0 0))).set2 (k := 0)).f 3)))
    have Fin := Lib.hid (retc_fin (n := 0) (m := 0) (B := w.heap.size + 2) R3.out (Own.nil _ _) (Own.nil _ _) (by omega) (Hx2.out.tr X3.out) (by omega))
    have q0 := Fin.out.1.c0
    have q1 := Fin.out.1.c1
    have q2 := Fin.out.1.c2
    have q3 := Fin.out.1.c3
    exact bodyPost_ret (v := .tuple #[.agg #[.int .i64 0, .slice none 0 0, .int .i64 0, .slice none 0 0], .bool false]) (by simp [results, Try.results30, q0, q1, q2, q3, go_sem]) rfl ⟨_, _, by rw [H.out.1, H.out.2.1], by rw [H.out.2.2.1]; exact Own.nil _ _, by rw [H.out.2.2.2]; exact Own.nil _ _, Apart.nil _, Fin.out.2.2.2⟩
end Go.Proofs.Ytaiigheknmndnaa
