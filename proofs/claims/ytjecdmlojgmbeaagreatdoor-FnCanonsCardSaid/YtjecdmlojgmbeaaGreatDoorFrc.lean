/- Contracts: RotateCanon on both sides. -/
import Derived.Test.YtjecdmlojgmbeaaGreatDoorFcn
import Derived.Test.YtjecdmlojgmbeaaGreatDoorFpha
namespace Go.Proofs.YtjecdmlojgmbeaaGreatDoor
open Go.RowKit
def rcOk (n m : Int) (l r : List Int) (i o : Int) : Prop := canOk n m l r ∧ (-1000 ≤ i ∧ i ≤ 1000) ∧ -1000 ≤ o ∧ o ≤ 1000
instance (n m : Int) (l r : List Int) (i o : Int) : Decidable (rcOk n m l r i o) := by unfold rcOk; infer_instance
def rcB (n m : Int) (l r : List Int) (i o : Int) : Bool := decide (rcOk n m l r i o)
def rcN (n m : Int) (l r : List Int) (i o : Int) : Int := if rcOk n m l r i o then n else 0
def rcI (n m : Int) (l r : List Int) (i o : Int) : List Int := if rcOk n m l r i o then rotL n.toNat l i else []
def rcO (n m : Int) (l r : List Int) (i o : Int) : List Int := if rcOk n m l r i o then rotL n.toNat r o else []
theorem rc_t {n : Nat} {m i o : Int} {l r : List Int} (h : rcOk n m l r i o) : rcB n m l r i o = true ∧ rcN n m l r i o = n ∧ rcI n m l r i o = rotL n l i ∧ rcO n m l r i o = rotL n r o := by
  unfold rcB rcN rcI rcO; rw [if_pos h, if_pos h, if_pos h]; exact ⟨by simpa using h, rfl, by simp, by simp⟩
theorem rc_f {n m i o : Int} {l r : List Int} (h : ¬ rcOk n m l r i o) : rcB n m l r i o = false ∧ rcN n m l r i o = 0 ∧ rcI n m l r i o = [] ∧ rcO n m l r i o = [] := by
  unfold rcB rcN rcI rcO; rw [if_neg h, if_neg h, if_neg h]; exact ⟨by simpa using h, rfl, rfl, rfl⟩
theorem rc_len (n m : Int) (l r : List Int) (i o : Int) : (rcI n m l r i o).length ≤ 1000000 ∧ (rcO n m l r i o).length ≤ 1000000 := by
  by_cases h : rcOk n m l r i o
  · obtain ⟨nn, rfl, _, h24, _⟩ := h.1.1.1.nat
    rw [(rc_t h).2.2.1, (rc_t h).2.2.2]
    have h1 := rhL_len nn (remL nn (addL i l))
    have h2 := rhL_len nn (remL nn (addL o r))
    unfold rotL; omega
  · rw [(rc_f h).2.2.1, (rc_f h).2.2.2]; simp
theorem pbB_iff (n : Int) (l : List Int) (k : Int) : pbB n l k = true ↔ pbOk n l k := by unfold pbB; simp
set_option maxRecDepth 100000 in
set_option maxHeartbeats 4000000 in
theorem rotateCanon_t (n m : Int) (l r : List Int) (i o : Int) (v u : Value) (w : World) (hv : Ints w v l) (hu : Ints w u r) (hs : canOk n m l r) (h1 : pbOk n l i) (h2 : pbOk m r o) : Calls Tryz.prog 6 #[.agg #[.int .i64 n, v, .int .i64 m, u], .int .i64 i, .int .i64 o] w (RCB (rcN n m l r i o) (rcI n m l r i o) (rcN n m l r i o) (rcO n m l r i o) (rcB n m l r i o) w) := by
  obtain ⟨A, c, hve, _, _⟩ := hv.form0
  obtain ⟨A', c', hue, _, _⟩ := hu.form0
  obtain ⟨k, hk⟩ : ∃ k, k = l.length := ⟨_, rfl⟩
  obtain ⟨k', hk'⟩ : ∃ k', k' = r.length := ⟨_, rfl⟩
  rw [← hk] at hve
  rw [← hk'] at hue
  subst hve
  subst hue
  have hx := one_box w (.cells #[.int .i64 n, .slice A k c, .int .i64 m, .slice A' k' c'] 29)
  have ha := CVar.new (T := 29) w n (.slice A k c) m (.slice A' k' c')
  have Hk := Lib.hid hk
  have Hk' := Lib.hid hk'
  have Hv := Lib.hid (hv.ext hx)
  have Hu := Lib.hid (hu.ext hx)
  have Hx := Lib.hid hx
  have Ca := Lib.hid ha
  clear hv hu hx hk hk' ha
  have hr0 := CVar.new (T := 29) (w.alloc (.cells #[.int .i64 n, .slice A k c, .int .i64 m, .slice A' k' c'] 29)) 0 (.slice none 0 0) 0 (.slice none 0 0)
  have hx2 := one_box (w.alloc (.cells #[.int .i64 n, .slice A k c, .int .i64 m, .slice A' k' c'] 29)) (.cells #[.int .i64 0, .slice none 0 0, .int .i64 0, .slice none 0 0] 29)
  simp only [World.size_alloc] at hr0
  have Hr := Lib.hid hr0
  have Hc := Lib.hid (Ca.out.ext hx2)
  have Hv2 := Lib.hid (Hv.out.ext hx2)
  have Hu2 := Lib.hid (Hu.out.ext hx2)
  have Hx2 := Lib.hid (Hx.out.tr hx2)
  have hc0 := Hc.out.c0
  have hc1 := Hc.out.c1
  clear hr0 hx2
  obtain ⟨Pn, hPn⟩ : ∃ z, z = pbN n l i := ⟨_, rfl⟩
  obtain ⟨Pl, hPl⟩ : ∃ z, z = rotLL n l i := ⟨_, rfl⟩
  obtain ⟨Qn, hQn⟩ : ∃ z, z = pbN m r o := ⟨_, rfl⟩
  obtain ⟨Ql, hQl⟩ : ∃ z, z = rotLL m r o := ⟨_, rfl⟩
  have HPn := Lib.hid hPn
  have HPl := Lib.hid hPl
  have HQn := Lib.hid hQn
  have HQl := Lib.hid hQl
  clear hPn hPl hQn hQl
  have B1 := Lib.hid ((pbB_iff n l i).2 h1)
  have B2 := Lib.hid ((pbB_iff m r o).2 h2)
  have Hs := Lib.hid hs
  have hok : rcOk n m l r i o := ⟨hs, h1.2, h2.2⟩
  obtain ⟨nn, hnn, hn1, hn24, hlen, hl⟩ := hs.1.1.nat
  have hnm := hs.1.2.2
  subst hnm
  subst hnn
  have H := Lib.hid (rc_t hok)
  have E1 : Hid (Pn = (nn : Int) ∧ Pl = rotL nn l i) := by unfold Hid; rw [HPn.out, HPl.out, (rot_t h1).2.1, (rot_t h1).2.2]; exact ⟨rfl, rfl⟩
  have E2 : Hid (Qn = (nn : Int) ∧ Ql = rotL nn r o) := by unfold Hid; rw [HQn.out, HQl.out, (rot_t h2).2.1, (rot_t h2).2.2]; exact ⟨rfl, rfl⟩
  clear h1 h2 hs hok hl hlen
  go_enter Tryz.func6, Tryz.ntmps6
  have tok : True := trivial
  go_wp2_with (first | (go_at_call 24; clear tok; refine (rotateRhythm_c (nn : Int) l i _ _ Hv2.out).mono ?_; rintro e w3 ⟨v3, rfl, ho3, hx3⟩; (rw [← HPn.out, B1.out]; rw [← HPl.out] at ho3; obtain ⟨A3, n3, c3, rfl⟩ := ho3.form; have X3 := Lib.hid (hx3.tr (one_box w3 (.cells #[.int .i64 Pn, .slice A3 n3 c3] 25))); have hd2 := (Hc.out.ext X3.out).c2; have hd3 := (Hc.out.ext X3.out).c3)))
  have tok : True := trivial
  go_wp2_with (first | (go_at_call 24; clear tok; refine (rotateRhythm_c (nn : Int) r o _ _ (Hu2.out.ext X3.out)).mono ?_; rintro e w4 ⟨v4, rfl, ho4, hx4⟩; (rw [← HQn.out, B2.out]; rw [← HQl.out] at ho4; obtain ⟨A4, n4, c4, rfl⟩ := ho4.form; have X4 := Lib.hid (X3.out.tr (hx4.tr (one_box w4 (.cells #[.int .i64 Qn, .slice A4 n4 c4] 25)))); have he0 := (Hc.out.ext X4.out).c0; have he1 := (Hc.out.ext X4.out).c1; have he2 := (Hc.out.ext X4.out).c2; have he3 := (Hc.out.ext X4.out).c3)))
  go_wp2_with (first | (go_at_call 9; refine (canonOk_c (nn : Int) (nn : Int) l r _ _ _ (Hv2.out.ext X4.out) (Hu2.out.ext X4.out)).mono ?_; rintro e w5 ⟨b5, rfl, hb5, hx5⟩; (obtain rfl := hb5.2 Hs.out; clear hb5; have I5 := Lib.hid (((RVar.new (T := 25) w3 Pn (.slice A3 n3 c3)).ext (hx4.tr (one_box w4 (.cells #[.int .i64 Qn, .slice A4 n4 c4] 25)))).ext hx5); have J5 := Lib.hid ((RVar.new (T := 25) w4 Qn (.slice A4 n4 c4)).ext hx5); have i0 := I5.out.c0; have i1 := I5.out.c1; have j0 := J5.out.c0; have j1 := J5.out.c1; have R5 := Lib.hid (Hr.out.ext (X4.out.tr hx5)); have d0 := R5.out.c0; have p0 := R5.out.f 0; have d1 := (R5.out.set0 (k := Pn)).c1; have p1 := (R5.out.set0 (k := Pn)).f 1; have d2 := ((R5.out.set0 (k := Pn)).set1 (x := (.slice A3 n3 c3))).c2; have p2 := ((R5.out.set0 (k := Pn)).set1 (x := (.slice A3 n3 c3))).f 2; have d3 := (((R5.out.set0 (k := Pn)).set1 (x := (.slice A3 n3 c3))).set2 (k := Qn)).c3; have p3 := (((R5.out.set0 (k := Pn)).set1 (x := (.slice A3 n3 c3))).set2 (k := Qn)).f 3)))
  have hz3 : w.heap.size + 1 < w3.heap.size := by have := hx3.size; simp only [World.size_alloc] at this; omega
  have hz4 : w3.heap.size ≤ w4.heap.size := by have := hx4.size; simp only [World.size_alloc] at this; omega
  have Hap : Hid (Apart (.slice A3 n3 c3) (.slice A4 n4 c4)) := Own.apart (ho3.alloc _) ho4
  have O3 := Lib.hid (((ho3.ext (one_box w3 (.cells #[.int .i64 Pn, .slice A3 n3 c3] 25))).ext (hx4.tr (one_box w4 (.cells #[.int .i64 Qn, .slice A4 n4 c4] 25)))).ext hx5)
  have O4 := Lib.hid ((ho4.ext (one_box w4 (.cells #[.int .i64 Qn, .slice A4 n4 c4] 25))).ext hx5)
  have Fin := Lib.hid (retc_fin (B := w.heap.size + 2) (n := Pn) (m := Qn) R5.out (O3.out.base (by simp)) (O4.out.base (by simp only [World.size_alloc]; omega)) (by omega) (Hx2.out.tr (X4.out.tr hx5)) (by omega))
  have q0 := Fin.out.1.c0
  have q1 := Fin.out.1.c1
  have q2 := Fin.out.1.c2
  have q3 := Fin.out.1.c3
  exact bodyPost_ret (v := .tuple #[.agg #[.int .i64 Pn, .slice A3 n3 c3, .int .i64 Qn, .slice A4 n4 c4], .bool true]) (by simp [results, Tryz.results6, q0, q1, q2, q3, go_sem]) rfl ⟨_, _, by rw [H.out.1, H.out.2.1, E1.out.1, E2.out.1], by rw [H.out.2.2.1, ← E1.out.2]; exact Fin.out.2.1.base (by omega), by rw [H.out.2.2.2, ← E2.out.2]; exact Fin.out.2.2.1.base (by omega), Hap.out, Fin.out.2.2.2⟩
set_option maxRecDepth 100000 in
set_option maxHeartbeats 4000000 in
theorem rotateCanon_f0 (n m : Int) (l r : List Int) (i o : Int) (v u : Value) (w : World) (hv : Ints w v l) (hu : Ints w u r) (hs : ¬ canOk n m l r) : Calls Tryz.prog 6 #[.agg #[.int .i64 n, v, .int .i64 m, u], .int .i64 i, .int .i64 o] w (RCB (rcN n m l r i o) (rcI n m l r i o) (rcN n m l r i o) (rcO n m l r i o) (rcB n m l r i o) w) := by
  obtain ⟨A, c, hve, _, _⟩ := hv.form0
  obtain ⟨A', c', hue, _, _⟩ := hu.form0
  obtain ⟨k, hk⟩ : ∃ k, k = l.length := ⟨_, rfl⟩
  obtain ⟨k', hk'⟩ : ∃ k', k' = r.length := ⟨_, rfl⟩
  rw [← hk] at hve
  rw [← hk'] at hue
  subst hve
  subst hue
  have hx := one_box w (.cells #[.int .i64 n, .slice A k c, .int .i64 m, .slice A' k' c'] 29)
  have ha := CVar.new (T := 29) w n (.slice A k c) m (.slice A' k' c')
  have Hk := Lib.hid hk
  have Hk' := Lib.hid hk'
  have Hv := Lib.hid (hv.ext hx)
  have Hu := Lib.hid (hu.ext hx)
  have Hx := Lib.hid hx
  have Ca := Lib.hid ha
  clear hv hu hx hk hk' ha
  have hr0 := CVar.new (T := 29) (w.alloc (.cells #[.int .i64 n, .slice A k c, .int .i64 m, .slice A' k' c'] 29)) 0 (.slice none 0 0) 0 (.slice none 0 0)
  have hx2 := one_box (w.alloc (.cells #[.int .i64 n, .slice A k c, .int .i64 m, .slice A' k' c'] 29)) (.cells #[.int .i64 0, .slice none 0 0, .int .i64 0, .slice none 0 0] 29)
  simp only [World.size_alloc] at hr0
  have Hr := Lib.hid hr0
  have Hc := Lib.hid (Ca.out.ext hx2)
  have Hv2 := Lib.hid (Hv.out.ext hx2)
  have Hu2 := Lib.hid (Hu.out.ext hx2)
  have Hx2 := Lib.hid (Hx.out.tr hx2)
  have hc0 := Hc.out.c0
  have hc1 := Hc.out.c1
  clear hr0 hx2
  obtain ⟨Pn, hPn⟩ : ∃ z, z = pbN n l i := ⟨_, rfl⟩
  obtain ⟨Pl, hPl⟩ : ∃ z, z = rotLL n l i := ⟨_, rfl⟩
  obtain ⟨Qn, hQn⟩ : ∃ z, z = pbN m r o := ⟨_, rfl⟩
  obtain ⟨Ql, hQl⟩ : ∃ z, z = rotLL m r o := ⟨_, rfl⟩
  have HPn := Lib.hid hPn
  have HPl := Lib.hid hPl
  have HQn := Lib.hid hQn
  have HQl := Lib.hid hQl
  clear hPn hPl hQn hQl
  have H := Lib.hid (rc_f (n := n) (m := m) (l := l) (r := r) (i := i) (o := o) (fun h => hs h.1))
  have Hs := Lib.hid hs
  clear hs
  go_enter Tryz.func6, Tryz.ntmps6
  have tok : True := trivial
  go_wp2_with (first | (go_at_call 24; clear tok; refine (rotateRhythm_c n l i _ _ Hv2.out).mono ?_; rintro e w3 ⟨v3, rfl, ho3, hx3⟩; (rw [← HPn.out]; rw [← HPl.out] at ho3; obtain ⟨A3, n3, c3, rfl⟩ := ho3.form; have X3 := Lib.hid (hx3.tr (one_box w3 (.cells #[.int .i64 Pn, .slice A3 n3 c3] 25))); have hd2 := (Hc.out.ext X3.out).c2; have hd3 := (Hc.out.ext X3.out).c3)))
  have tok : True := trivial
  go_wp2_with (first | (go_at_call 24; clear tok; refine (rotateRhythm_c m r o _ _ (Hu2.out.ext X3.out)).mono ?_; rintro e w4 ⟨v4, rfl, ho4, hx4⟩; (rw [← HQn.out]; rw [← HQl.out] at ho4; obtain ⟨A4, n4, c4, rfl⟩ := ho4.form; have X4 := Lib.hid (X3.out.tr (hx4.tr (one_box w4 (.cells #[.int .i64 Qn, .slice A4 n4 c4] 25)))); have he0 := (Hc.out.ext X4.out).c0; have he1 := (Hc.out.ext X4.out).c1; have he2 := (Hc.out.ext X4.out).c2; have he3 := (Hc.out.ext X4.out).c3)))
  go_wp2_with (first | (go_at_call 9; refine (canonOk_c n m l r _ _ _ (Hv2.out.ext X4.out) (Hu2.out.ext X4.out)).mono ?_; rintro e w5 ⟨b5, rfl, hb5, hx5⟩; (obtain rfl := bool_f hb5 Hs.out; clear hb5; have R5 := Lib.hid (Hr.out.ext (X4.out.tr hx5)); have d0 := R5.out.c0; have p0 := R5.out.f 0; have d1 := (R5.out.set0 (k := 0)).c1; have p1 := (R5.out.set0 (k := 0)).f 1; have d2 := ((R5.out.set0 (k := 0)).set1 (x := (.slice none 0 0))).c2; have p2 := ((R5.out.set0 (k := 0)).set1 (x := (.slice none 0 0))).f 2; have d3 := (((R5.out.set0 (k := 0)).set1 (x := (.slice none 0 0))).set2 (k := 0)).c3; have p3 := (((R5.out.set0 (k := 0)).set1 (x := (.slice none 0 0))).set2 (k := 0)).f 3)))
  have Fin := Lib.hid (retc_fin (n := 0) (m := 0) (B := w.heap.size + 2) R5.out (Own.nil _ _) (Own.nil _ _) (by omega) (Hx2.out.tr (X4.out.tr hx5)) (by omega))
  have q0 := Fin.out.1.c0
  have q1 := Fin.out.1.c1
  have q2 := Fin.out.1.c2
  have q3 := Fin.out.1.c3
  exact bodyPost_ret (v := .tuple #[.agg #[.int .i64 0, .slice none 0 0, .int .i64 0, .slice none 0 0], .bool false]) (by simp [results, Tryz.results6, q0, q1, q2, q3, go_sem]) rfl ⟨_, _, by rw [H.out.1, H.out.2.1], by rw [H.out.2.2.1]; exact Own.nil _ _, by rw [H.out.2.2.2]; exact Own.nil _ _, Apart.nil _, Fin.out.2.2.2⟩
set_option maxRecDepth 100000 in
set_option maxHeartbeats 4000000 in
theorem rotateCanon_f1 (n m : Int) (l r : List Int) (i o : Int) (v u : Value) (w : World) (hv : Ints w v l) (hu : Ints w u r) (hs : canOk n m l r) (h1 : ¬ pbOk n l i) : Calls Tryz.prog 6 #[.agg #[.int .i64 n, v, .int .i64 m, u], .int .i64 i, .int .i64 o] w (RCB (rcN n m l r i o) (rcI n m l r i o) (rcN n m l r i o) (rcO n m l r i o) (rcB n m l r i o) w) := by
  obtain ⟨A, c, hve, _, _⟩ := hv.form0
  obtain ⟨A', c', hue, _, _⟩ := hu.form0
  obtain ⟨k, hk⟩ : ∃ k, k = l.length := ⟨_, rfl⟩
  obtain ⟨k', hk'⟩ : ∃ k', k' = r.length := ⟨_, rfl⟩
  rw [← hk] at hve
  rw [← hk'] at hue
  subst hve
  subst hue
  have hx := one_box w (.cells #[.int .i64 n, .slice A k c, .int .i64 m, .slice A' k' c'] 29)
  have ha := CVar.new (T := 29) w n (.slice A k c) m (.slice A' k' c')
  have Hk := Lib.hid hk
  have Hk' := Lib.hid hk'
  have Hv := Lib.hid (hv.ext hx)
  have Hu := Lib.hid (hu.ext hx)
  have Hx := Lib.hid hx
  have Ca := Lib.hid ha
  clear hv hu hx hk hk' ha
  have hr0 := CVar.new (T := 29) (w.alloc (.cells #[.int .i64 n, .slice A k c, .int .i64 m, .slice A' k' c'] 29)) 0 (.slice none 0 0) 0 (.slice none 0 0)
  have hx2 := one_box (w.alloc (.cells #[.int .i64 n, .slice A k c, .int .i64 m, .slice A' k' c'] 29)) (.cells #[.int .i64 0, .slice none 0 0, .int .i64 0, .slice none 0 0] 29)
  simp only [World.size_alloc] at hr0
  have Hr := Lib.hid hr0
  have Hc := Lib.hid (Ca.out.ext hx2)
  have Hv2 := Lib.hid (Hv.out.ext hx2)
  have Hu2 := Lib.hid (Hu.out.ext hx2)
  have Hx2 := Lib.hid (Hx.out.tr hx2)
  have hc0 := Hc.out.c0
  have hc1 := Hc.out.c1
  clear hr0 hx2
  obtain ⟨Pn, hPn⟩ : ∃ z, z = pbN n l i := ⟨_, rfl⟩
  obtain ⟨Pl, hPl⟩ : ∃ z, z = rotLL n l i := ⟨_, rfl⟩
  obtain ⟨Qn, hQn⟩ : ∃ z, z = pbN m r o := ⟨_, rfl⟩
  obtain ⟨Ql, hQl⟩ : ∃ z, z = rotLL m r o := ⟨_, rfl⟩
  have HPn := Lib.hid hPn
  have HPl := Lib.hid hPl
  have HQn := Lib.hid hQn
  have HQl := Lib.hid hQl
  clear hPn hPl hQn hQl
  have H := Lib.hid (rc_f (n := n) (m := m) (l := l) (r := r) (i := i) (o := o) (fun h => h1 ⟨h.1.1.1, h.2.1⟩))
  have B1 : Hid (pbB n l i = false) := by unfold Hid pbB; simpa using h1
  have Hs := Lib.hid hs
  clear h1 hs
  go_enter Tryz.func6, Tryz.ntmps6
  have tok : True := trivial
  go_wp2_with (first | (go_at_call 24; clear tok; refine (rotateRhythm_c n l i _ _ Hv2.out).mono ?_; rintro e w3 ⟨v3, rfl, ho3, hx3⟩; (rw [← HPn.out, B1.out]; rw [← HPl.out] at ho3; obtain ⟨A3, n3, c3, rfl⟩ := ho3.form; have X3 := Lib.hid (hx3.tr (one_box w3 (.cells #[.int .i64 Pn, .slice A3 n3 c3] 25))); have hd2 := (Hc.out.ext X3.out).c2; have hd3 := (Hc.out.ext X3.out).c3)))
  have tok : True := trivial
  go_wp2_with (first | (go_at_call 24; clear tok; refine (rotateRhythm_c m r o _ _ (Hu2.out.ext X3.out)).mono ?_; rintro e w4 ⟨v4, rfl, ho4, hx4⟩; (rw [← HQn.out]; rw [← HQl.out] at ho4; obtain ⟨A4, n4, c4, rfl⟩ := ho4.form; have X4 := Lib.hid (X3.out.tr (hx4.tr (one_box w4 (.cells #[.int .i64 Qn, .slice A4 n4 c4] 25)))); have he0 := (Hc.out.ext X4.out).c0; have he1 := (Hc.out.ext X4.out).c1; have he2 := (Hc.out.ext X4.out).c2; have he3 := (Hc.out.ext X4.out).c3)))
  go_wp2_with (first | (go_at_call 9; refine (canonOk_c n m l r _ _ _ (Hv2.out.ext X4.out) (Hu2.out.ext X4.out)).mono ?_; rintro e w5 ⟨b5, rfl, hb5, hx5⟩; (obtain rfl := hb5.2 Hs.out; clear hb5; have R5 := Lib.hid (Hr.out.ext (X4.out.tr hx5)); have d0 := R5.out.c0; have p0 := R5.out.f 0; have d1 := (R5.out.set0 (k := 0)).c1; have p1 := (R5.out.set0 (k := 0)).f 1; have d2 := ((R5.out.set0 (k := 0)).set1 (x := (.slice none 0 0))).c2; have p2 := ((R5.out.set0 (k := 0)).set1 (x := (.slice none 0 0))).f 2; have d3 := (((R5.out.set0 (k := 0)).set1 (x := (.slice none 0 0))).set2 (k := 0)).c3; have p3 := (((R5.out.set0 (k := 0)).set1 (x := (.slice none 0 0))).set2 (k := 0)).f 3)))
  have Fin := Lib.hid (retc_fin (n := 0) (m := 0) (B := w.heap.size + 2) R5.out (Own.nil _ _) (Own.nil _ _) (by omega) (Hx2.out.tr (X4.out.tr hx5)) (by omega))
  have q0 := Fin.out.1.c0
  have q1 := Fin.out.1.c1
  have q2 := Fin.out.1.c2
  have q3 := Fin.out.1.c3
  exact bodyPost_ret (v := .tuple #[.agg #[.int .i64 0, .slice none 0 0, .int .i64 0, .slice none 0 0], .bool false]) (by simp [results, Tryz.results6, q0, q1, q2, q3, go_sem]) rfl ⟨_, _, by rw [H.out.1, H.out.2.1], by rw [H.out.2.2.1]; exact Own.nil _ _, by rw [H.out.2.2.2]; exact Own.nil _ _, Apart.nil _, Fin.out.2.2.2⟩
set_option maxRecDepth 100000 in
set_option maxHeartbeats 4000000 in
theorem rotateCanon_f2 (n m : Int) (l r : List Int) (i o : Int) (v u : Value) (w : World) (hv : Ints w v l) (hu : Ints w u r) (hs : canOk n m l r) (h1 : pbOk n l i) (h2 : ¬ pbOk m r o) : Calls Tryz.prog 6 #[.agg #[.int .i64 n, v, .int .i64 m, u], .int .i64 i, .int .i64 o] w (RCB (rcN n m l r i o) (rcI n m l r i o) (rcN n m l r i o) (rcO n m l r i o) (rcB n m l r i o) w) := by
  obtain ⟨A, c, hve, _, _⟩ := hv.form0
  obtain ⟨A', c', hue, _, _⟩ := hu.form0
  obtain ⟨k, hk⟩ : ∃ k, k = l.length := ⟨_, rfl⟩
  obtain ⟨k', hk'⟩ : ∃ k', k' = r.length := ⟨_, rfl⟩
  rw [← hk] at hve
  rw [← hk'] at hue
  subst hve
  subst hue
  have hx := one_box w (.cells #[.int .i64 n, .slice A k c, .int .i64 m, .slice A' k' c'] 29)
  have ha := CVar.new (T := 29) w n (.slice A k c) m (.slice A' k' c')
  have Hk := Lib.hid hk
  have Hk' := Lib.hid hk'
  have Hv := Lib.hid (hv.ext hx)
  have Hu := Lib.hid (hu.ext hx)
  have Hx := Lib.hid hx
  have Ca := Lib.hid ha
  clear hv hu hx hk hk' ha
  have hr0 := CVar.new (T := 29) (w.alloc (.cells #[.int .i64 n, .slice A k c, .int .i64 m, .slice A' k' c'] 29)) 0 (.slice none 0 0) 0 (.slice none 0 0)
  have hx2 := one_box (w.alloc (.cells #[.int .i64 n, .slice A k c, .int .i64 m, .slice A' k' c'] 29)) (.cells #[.int .i64 0, .slice none 0 0, .int .i64 0, .slice none 0 0] 29)
  simp only [World.size_alloc] at hr0
  have Hr := Lib.hid hr0
  have Hc := Lib.hid (Ca.out.ext hx2)
  have Hv2 := Lib.hid (Hv.out.ext hx2)
  have Hu2 := Lib.hid (Hu.out.ext hx2)
  have Hx2 := Lib.hid (Hx.out.tr hx2)
  have hc0 := Hc.out.c0
  have hc1 := Hc.out.c1
  clear hr0 hx2
  obtain ⟨Pn, hPn⟩ : ∃ z, z = pbN n l i := ⟨_, rfl⟩
  obtain ⟨Pl, hPl⟩ : ∃ z, z = rotLL n l i := ⟨_, rfl⟩
  obtain ⟨Qn, hQn⟩ : ∃ z, z = pbN m r o := ⟨_, rfl⟩
  obtain ⟨Ql, hQl⟩ : ∃ z, z = rotLL m r o := ⟨_, rfl⟩
  have HPn := Lib.hid hPn
  have HPl := Lib.hid hPl
  have HQn := Lib.hid hQn
  have HQl := Lib.hid hQl
  clear hPn hPl hQn hQl
  have H := Lib.hid (rc_f (n := n) (m := m) (l := l) (r := r) (i := i) (o := o) (fun h => h2 ⟨h.1.1.2.1, h.2.2⟩))
  have B1 : Hid (pbB n l i = true) := by unfold Hid pbB; simpa using h1
  have B2 : Hid (pbB m r o = false) := by unfold Hid pbB; simpa using h2
  have Hs := Lib.hid hs
  clear h1 h2 hs
  go_enter Tryz.func6, Tryz.ntmps6
  have tok : True := trivial
  go_wp2_with (first | (go_at_call 24; clear tok; refine (rotateRhythm_c n l i _ _ Hv2.out).mono ?_; rintro e w3 ⟨v3, rfl, ho3, hx3⟩; (rw [← HPn.out, B1.out]; rw [← HPl.out] at ho3; obtain ⟨A3, n3, c3, rfl⟩ := ho3.form; have X3 := Lib.hid (hx3.tr (one_box w3 (.cells #[.int .i64 Pn, .slice A3 n3 c3] 25))); have hd2 := (Hc.out.ext X3.out).c2; have hd3 := (Hc.out.ext X3.out).c3)))
  have tok : True := trivial
  go_wp2_with (first | (go_at_call 24; clear tok; refine (rotateRhythm_c m r o _ _ (Hu2.out.ext X3.out)).mono ?_; rintro e w4 ⟨v4, rfl, ho4, hx4⟩; (rw [← HQn.out, B2.out]; rw [← HQl.out] at ho4; obtain ⟨A4, n4, c4, rfl⟩ := ho4.form; have X4 := Lib.hid (X3.out.tr (hx4.tr (one_box w4 (.cells #[.int .i64 Qn, .slice A4 n4 c4] 25)))); have he0 := (Hc.out.ext X4.out).c0; have he1 := (Hc.out.ext X4.out).c1; have he2 := (Hc.out.ext X4.out).c2; have he3 := (Hc.out.ext X4.out).c3)))
  go_wp2_with (first | (go_at_call 9; refine (canonOk_c n m l r _ _ _ (Hv2.out.ext X4.out) (Hu2.out.ext X4.out)).mono ?_; rintro e w5 ⟨b5, rfl, hb5, hx5⟩; (obtain rfl := hb5.2 Hs.out; clear hb5; have R5 := Lib.hid (Hr.out.ext (X4.out.tr hx5)); have d0 := R5.out.c0; have p0 := R5.out.f 0; have d1 := (R5.out.set0 (k := 0)).c1; have p1 := (R5.out.set0 (k := 0)).f 1; have d2 := ((R5.out.set0 (k := 0)).set1 (x := (.slice none 0 0))).c2; have p2 := ((R5.out.set0 (k := 0)).set1 (x := (.slice none 0 0))).f 2; have d3 := (((R5.out.set0 (k := 0)).set1 (x := (.slice none 0 0))).set2 (k := 0)).c3; have p3 := (((R5.out.set0 (k := 0)).set1 (x := (.slice none 0 0))).set2 (k := 0)).f 3)))
  have Fin := Lib.hid (retc_fin (n := 0) (m := 0) (B := w.heap.size + 2) R5.out (Own.nil _ _) (Own.nil _ _) (by omega) (Hx2.out.tr (X4.out.tr hx5)) (by omega))
  have q0 := Fin.out.1.c0
  have q1 := Fin.out.1.c1
  have q2 := Fin.out.1.c2
  have q3 := Fin.out.1.c3
  exact bodyPost_ret (v := .tuple #[.agg #[.int .i64 0, .slice none 0 0, .int .i64 0, .slice none 0 0], .bool false]) (by simp [results, Tryz.results6, q0, q1, q2, q3, go_sem]) rfl ⟨_, _, by rw [H.out.1, H.out.2.1], by rw [H.out.2.2.1]; exact Own.nil _ _, by rw [H.out.2.2.2]; exact Own.nil _ _, Apart.nil _, Fin.out.2.2.2⟩
theorem rotateCanon_c (n m : Int) (l r : List Int) (i o : Int) (v u : Value) (w : World) (hv : Ints w v l) (hu : Ints w u r) : Calls Tryz.prog 6 #[.agg #[.int .i64 n, v, .int .i64 m, u], .int .i64 i, .int .i64 o] w (RCB (rcN n m l r i o) (rcI n m l r i o) (rcN n m l r i o) (rcO n m l r i o) (rcB n m l r i o) w) := by
  by_cases hs : canOk n m l r
  · by_cases h1 : pbOk n l i
    · by_cases h2 : pbOk m r o
      · exact rotateCanon_t n m l r i o v u w hv hu hs h1 h2
      · exact rotateCanon_f2 n m l r i o v u w hv hu hs h1 h2
    · exact rotateCanon_f1 n m l r i o v u w hv hu hs h1
  · exact rotateCanon_f0 n m l r i o v u w hv hu hs
end Go.Proofs.YtjecdmlojgmbeaaGreatDoor
