/- Contracts of the laws' own helpers on canons: szCanon, toCanon, eqCanon, markCanon, heldCanon. -/
import Derived.Test.YtaiigheknmndnaaCan
import Derived.Test.YtaiigheknmndnaaLawR
namespace Go.Proofs.Ytaiigheknmndnaa
open Go.RowKit
set_option maxRecDepth 100000 in
theorem szCanon_t (l r : List Int) (n m : Int) (v u : Value) (w : World) (hv : Ints w v l) (hu : Ints w u r) (hle : l.length + r.length ≤ 1048576) : Calls Try.prog 11 #[.agg #[.int .i64 n, v, .int .i64 m, u], .int .i64 1048576] w fun e w' => ∃ q : Int, e = .returned (.int .i64 q) ∧ 0 ≤ q ∧ Ext w w' := by
  obtain ⟨A, c, hve, _, _⟩ := hv.form0
  obtain ⟨A', c', hue, _, _⟩ := hu.form0
  obtain ⟨k, hk⟩ : ∃ k, k = l.length := ⟨_, rfl⟩
  obtain ⟨k', hk'⟩ : ∃ k', k' = r.length := ⟨_, rfl⟩
  rw [← hk] at hve
  rw [← hk'] at hue
  subst hve
  subst hue
  have hx := one_box w (.cells #[.int .i64 n, .slice A k c, .int .i64 m, .slice A' k' c'] 26)
  have ha := CVar.new (T := 26) w n (.slice A k c) m (.slice A' k' c')
  have Hk := Lib.hid hk
  have Hk' := Lib.hid hk'
  have Hv := Lib.hid (hv.ext hx)
  have Hu := Lib.hid (hu.ext hx)
  have Hx := Lib.hid hx
  have Ca := Lib.hid ha
  clear hv hu hx hk hk' ha
  have hc0 := Ca.out.c0
  have hc1 := Ca.out.c1
  have hc2 := Ca.out.c2
  have hc3 := Ca.out.c3
  have hl1 : (l.length : Int) ≤ 1048576 := by omega
  have hl2 : (r.length : Int) ≤ 1048576 - (l.length : Int) := by omega
  go_enter Try.func11, Try.ntmps11
  have tok : True := trivial
  go_wp2_with (first | (go_at_call 40; clear tok; refine (szRhythm_t l n _ _ _ Hv.out ?_ ?_).mono ?_; (focus omega); (focus omega); rintro e w2 ⟨q2, rfl, hq2, hq2a, hq2b, hx2⟩; have hd2 := (Ca.out.ext hx2).c2; have hd3 := (Ca.out.ext hx2).c3))
  have tok : True := trivial
  go_wp2_with (first | (go_at_call 40; clear tok; refine (szRhythm_t r m _ _ _ (Hu.out.ext hx2) ?_ ?_).mono ?_; (focus omega); (focus (have := hq2.out; omega)); rintro e w3 ⟨q3, rfl, hq3, hq3a, hq3b, hx3⟩))
  go_ret
  exact ⟨q3, rfl, hq3a, Hx.out.tr (hx2.tr hx3)⟩
set_option maxRecDepth 100000 in
theorem szCanon_f (l r : List Int) (n m : Int) (v u : Value) (w : World) (hv : Ints w v l) (hu : Ints w u r) (hle : ¬ l.length + r.length ≤ 1048576) : Calls Try.prog 11 #[.agg #[.int .i64 n, v, .int .i64 m, u], .int .i64 1048576] w fun e w' => e = .returned (.int .i64 (-1)) ∧ Ext w w' := by
  obtain ⟨A, c, hve, _, _⟩ := hv.form0
  obtain ⟨A', c', hue, _, _⟩ := hu.form0
  obtain ⟨k, hk⟩ : ∃ k, k = l.length := ⟨_, rfl⟩
  obtain ⟨k', hk'⟩ : ∃ k', k' = r.length := ⟨_, rfl⟩
  rw [← hk] at hve
  rw [← hk'] at hue
  subst hve
  subst hue
  have hx := one_box w (.cells #[.int .i64 n, .slice A k c, .int .i64 m, .slice A' k' c'] 26)
  have ha := CVar.new (T := 26) w n (.slice A k c) m (.slice A' k' c')
  have Hk := Lib.hid hk
  have Hk' := Lib.hid hk'
  have Hv := Lib.hid (hv.ext hx)
  have Hu := Lib.hid (hu.ext hx)
  have Hx := Lib.hid hx
  have Ca := Lib.hid ha
  clear hv hu hx hk hk' ha
  have hc0 := Ca.out.c0
  have hc1 := Ca.out.c1
  have hc2 := Ca.out.c2
  have hc3 := Ca.out.c3
  by_cases hl1 : (l.length : Int) ≤ 1048576
  · have hl2 : ¬ (r.length : Int) ≤ 1048576 - (l.length : Int) := by omega
    go_enter Try.func11, Try.ntmps11
    have tok : True := trivial
    go_wp2_with (first | (go_at_call 40; clear tok; refine (szRhythm_t l n _ _ _ Hv.out ?_ ?_).mono ?_; (focus omega); (focus omega); rintro e w2 ⟨q2, rfl, hq2, hq2a, hq2b, hx2⟩; have hd2 := (Ca.out.ext hx2).c2; have hd3 := (Ca.out.ext hx2).c3))
    have tok : True := trivial
    go_wp2_with (first | (go_at_call 40; clear tok; refine (szRhythm_f r m _ _ _ (Hu.out.ext hx2) ?_ ?_).mono ?_; (focus omega); (focus (have := hq2.out; omega)); rintro e w3 ⟨rfl, hx3⟩))
    go_ret
    exact ⟨rfl, Hx.out.tr (hx2.tr hx3)⟩
  · go_enter Try.func11, Try.ntmps11
    go_wp2_with (first | (go_at_call 40; refine (szRhythm_f l n _ _ _ Hv.out ?_ ?_).mono ?_; (focus omega); (focus omega); rintro e w2 ⟨rfl, hx2⟩))
    go_ret
    exact ⟨rfl, Hx.out.tr hx2⟩
set_option maxRecDepth 100000 in
set_option maxHeartbeats 1000000 in
theorem toCanon_c (n m : Int) (l r : List Int) (v u : Value) (w : World) (hv : Ints w v l) (hu : Ints w u r) (hll : l.length ≤ 1048576) (hlr : r.length ≤ 1048576) : Calls Try.prog 13 #[.agg #[.int .i64 n, v, .int .i64 m, u]] w (RC n l m r w) := by
  have hu0 := hu
  obtain ⟨A, c, hve, _, _⟩ := hv.form0
  obtain ⟨A', c', hue, _, _⟩ := hu.form0
  obtain ⟨k, hk⟩ : ∃ k, k = l.length := ⟨_, rfl⟩
  obtain ⟨k', hk'⟩ : ∃ k', k' = r.length := ⟨_, rfl⟩
  rw [← hk] at hve
  rw [← hk'] at hue
  subst hve
  subst hue
  have hx := one_box w (.cells #[.int .i64 n, .slice A k c, .int .i64 m, .slice A' k' c'] 26)
  have ha := CVar.new (T := 26) w n (.slice A k c) m (.slice A' k' c')
  have Hk := Lib.hid hk
  have Hk' := Lib.hid hk'
  have Hv := Lib.hid (hv.ext hx)
  have Hu := Lib.hid (hu.ext hx)
  have Hx := Lib.hid hx
  have Ca := Lib.hid ha
  clear hv hu hx hk hk' ha
  have Hu0 := Lib.hid hu0
  clear hu0
  obtain ⟨w1, hw1⟩ : ∃ w1, w1 = (w.alloc (.cells #[.int .i64 n, .slice A k c, .int .i64 m, .slice A' k' c'] 26)) := ⟨_, rfl⟩
  have hs1 : w1.heap.size = w.heap.size + 1 := by rw [hw1]; simp
  have hr0 := CVar.new (T := 31) w1 0 (.slice none 0 0) 0 (.slice none 0 0)
  have hx2 := one_box w1 (.cells #[.int .i64 0, .slice none 0 0, .int .i64 0, .slice none 0 0] 31)
  obtain ⟨w2, hw2⟩ : ∃ w2, w2 = w1.alloc (.cells #[.int .i64 0, .slice none 0 0, .int .i64 0, .slice none 0 0] 31) := ⟨_, rfl⟩
  have hs2 : w2.heap.size = w.heap.size + 1 + 1 := by rw [hw2]; simp [hs1]
  rw [← hw2] at hr0 hx2
  have hm0 := CVar.new (T := 31) w2 0 (.slice none 0 0) 0 (.slice none 0 0)
  have hx3 := one_box w2 (.cells #[.int .i64 0, .slice none 0 0, .int .i64 0, .slice none 0 0] 31)
  obtain ⟨w3, hw3⟩ : ∃ w3, w3 = w2.alloc (.cells #[.int .i64 0, .slice none 0 0, .int .i64 0, .slice none 0 0] 31) := ⟨_, rfl⟩
  rw [← hw3] at hm0 hx3
  have hs3 : w3.heap.size = w.heap.size + 1 + 1 + 1 := by rw [hw3]; simp [hs2]
  have hx13 := hx2.tr hx3
  have hca := Ca.out
  have hhv := Hv.out
  have hhu := Hu.out
  have hhx := Hx.out
  rw [← hw1] at hca hhv hhu hhx
  rw [hs1] at hr0
  rw [hs2] at hm0
  have Hr := Lib.hid (hr0.ext hx3)
  have Hm := Lib.hid hm0
  have Hc := Lib.hid (hca.ext hx13)
  have Hv3 := Lib.hid (hhv.ext hx13)
  have Hu3 := Lib.hid (hhu.ext hx13)
  have Hx3 := Lib.hid (hhx.tr hx13)
  have Hs3 := Lib.hid hs3
  have hc0 := Hc.out.c0
  have hc1 := Hc.out.c1
  clear hr0 hm0 hx2 hx3 hx13 hs1 hs2 hs3 hca hhv hhu hhx
  subst hw3
  subst hw2
  subst hw1
  go_enter Try.func13, Try.ntmps13
  have tok : True := trivial
  go_wp2_with (first | (go_at_call 42; clear tok; refine (toRhythm_c n l _ _ Hv3.out (by omega)).mono ?_; rintro e w4 ⟨v4, rfl, ho4, hx4⟩; (obtain ⟨A4, n4, c4, rfl⟩ := ho4.form; have M4 := Lib.hid (Hm.out.ext hx4); have e0 := M4.out.c0; have f0 := M4.out.f 0; have e1 := (M4.out.set0 (k := n)).c1; have f1 := (M4.out.set0 (k := n)).f 1; have M4' := Lib.hid ((M4.out.set0 (k := n)).set1 (x := .slice A4 n4 c4)); have C4 := Lib.hid (((Hc.out.ext hx4).other (k := 0) (x := .int .i64 n) (show w.heap.size ≠ w.heap.size + 1 + 1 by omega)).other (k := 1) (x := .slice A4 n4 c4) (show w.heap.size ≠ w.heap.size + 1 + 1 by omega)); have g2 := C4.out.c2; have g3 := C4.out.c3)))
  have X4 := Lib.hid (((Hx3.out.tr hx4).setAt (w.heap.size + 1 + 1) 0 (.int .i64 n) (by omega)).setAt (w.heap.size + 1 + 1) 1 (.slice A4 n4 c4) (by omega))
  have hz4 : w.heap.size + 1 + 1 + 1 ≤ w4.heap.size := by have := hx4.size; simp only [World.size_alloc] at this; exact this
  have O4 := Lib.hid (((ho4.base (B' := w.heap.size + 1 + 1 + 1) (by simp)).other (k := 0) (c := w.heap.size + 1 + 1) (u := .int .i64 n) (by omega)).other (k := 1) (c := w.heap.size + 1 + 1) (u := .slice A4 n4 c4) (by omega))
  have R4 := Lib.hid (((Hr.out.ext hx4).other (k := 0) (x := .int .i64 n) (show w.heap.size + 1 ≠ w.heap.size + 1 + 1 by omega)).other (k := 1) (x := .slice A4 n4 c4) (show w.heap.size + 1 ≠ w.heap.size + 1 + 1 by omega))
  have hs4 := Lib.hid (show ((w4.setCell ⟨w.heap.size + 1 + 1, 0, none⟩ (.int .i64 n)).setCell ⟨w.heap.size + 1 + 1, 1, none⟩ (.slice A4 n4 c4)).heap.size = w4.heap.size by simp)
  clear e0 f0 e1 f1 g2 g3
  have tok : True := trivial
  go_wp2_with (first | (go_at_call 42; clear tok; refine (toRhythm_c m r _ _ (Hu0.out.ext X4.out) (by omega)).mono ?_; rintro e w5 ⟨v5, rfl, ho5, hx5⟩; (obtain ⟨A5, n5, c5, rfl⟩ := ho5.form; have M5 := Lib.hid (M4'.out.ext hx5); have e2 := M5.out.c2; have f2 := M5.out.f 2; have e3 := (M5.out.set2 (k := m)).c3; have f3 := (M5.out.set2 (k := m)).f 3; have M6 := Lib.hid ((M5.out.set2 (k := m)).set3 (x := .slice A5 n5 c5)); have k0 := M6.out.c0; have k1 := M6.out.c1; have k2 := M6.out.c2; have k3 := M6.out.c3; have R5 := Lib.hid (((R4.out.ext hx5).other (k := 2) (x := .int .i64 m) (show w.heap.size + 1 ≠ w.heap.size + 1 + 1 by omega)).other (k := 3) (x := .slice A5 n5 c5) (show w.heap.size + 1 ≠ w.heap.size + 1 + 1 by omega)); have d0 := R5.out.c0; have p0 := R5.out.f 0; have d1 := (R5.out.set0 (k := n)).c1; have p1 := (R5.out.set0 (k := n)).f 1; have d2 := ((R5.out.set0 (k := n)).set1 (x := .slice A4 n4 c4)).c2; have p2 := ((R5.out.set0 (k := n)).set1 (x := .slice A4 n4 c4)).f 2; have d3 := (((R5.out.set0 (k := n)).set1 (x := .slice A4 n4 c4)).set2 (k := m)).c3; have p3 := (((R5.out.set0 (k := n)).set1 (x := .slice A4 n4 c4)).set2 (k := m)).f 3)))
  have O5 := Lib.hid (((ho5.base (B' := w.heap.size + 1 + 1 + 1) (by rw [hs4.out]; exact hz4)).other (k := 2) (c := w.heap.size + 1 + 1) (u := .int .i64 m) (by omega)).other (k := 3) (c := w.heap.size + 1 + 1) (u := .slice A5 n5 c5) (by omega))
  have O4' := Lib.hid (((O4.out.ext hx5).other (k := 2) (c := w.heap.size + 1 + 1) (u := .int .i64 m) (by omega)).other (k := 3) (c := w.heap.size + 1 + 1) (u := .slice A5 n5 c5) (by omega))
  have X5 := Lib.hid (((X4.out.tr hx5).setAt (w.heap.size + 1 + 1) 2 (.int .i64 m) (by omega)).setAt (w.heap.size + 1 + 1) 3 (.slice A5 n5 c5) (by omega))
  have Hap : Hid (Apart (.slice A4 n4 c4) (.slice A5 n5 c5)) := by
    unfold Hid
    cases e : Value.ownBlock (.slice A4 n4 c4) with
    | none => exact .inl e
    | some j =>
      right; rw [e]; intro e'
      have h1 := (O4.out.lt j e).2
      have h2 := (ho5.lt j e'.symm).1
      omega
  have Fin := Lib.hid (retc_fin (n := n) (m := m) R5.out O4'.out O5.out (by omega) X5.out (by omega))
  have q0 := Fin.out.1.c0
  have q1 := Fin.out.1.c1
  have q2 := Fin.out.1.c2
  have q3 := Fin.out.1.c3
  exact bodyPost_ret (v := .agg #[.int .i64 n, .slice A4 n4 c4, .int .i64 m, .slice A5 n5 c5]) (by simp [results, Try.results13, q0, q1, q2, q3, go_sem]) rfl ⟨_, _, rfl, Fin.out.2.1.base (by omega), Fin.out.2.2.1.base (by omega), Hap.out, Fin.out.2.2.2⟩
set_option maxRecDepth 100000 in
set_option maxHeartbeats 1000000 in
theorem eqCanon_c (n m n' m' : Int) (l r l' r' : List Int) (v u v' u' : Value) (w : World) (hv : Ints w v l) (hu : Ints w u r) (hv' : Ints w v' l') (hu' : Ints w u' r') :
    Calls Try.prog 16 #[.agg #[.int .i64 n, v, .int .i64 m, u], .agg #[.int .i64 n', v', .int .i64 m', u']] w (RB (n = n' ∧ m = m' ∧ l = l' ∧ r = r') w) := by
  have hx1 := one_box w (.cells #[.int .i64 n, v, .int .i64 m, u] 31)
  have hx2 := one_box (w.alloc (.cells #[.int .i64 n, v, .int .i64 m, u] 31)) (.cells #[.int .i64 n', v', .int .i64 m', u'] 31)
  have ha := (CVar.new (T := 31) w n v m u).ext hx2
  have hb : CVar ((w.alloc (.cells #[.int .i64 n, v, .int .i64 m, u] 31)).alloc (.cells #[.int .i64 n', v', .int .i64 m', u'] 31)) (w.heap.size + 1) n' v' m' u' := by
    simpa only [World.size_alloc] using CVar.new (T := 31) (w.alloc (.cells #[.int .i64 n, v, .int .i64 m, u] 31)) n' v' m' u'
  have hx := hx1.tr hx2
  obtain ⟨A1, k1, e1, _, _⟩ := hv.form0
  obtain ⟨A2, k2, e2, _, _⟩ := hu.form0
  obtain ⟨A3, k3, e3, _, _⟩ := hv'.form0
  obtain ⟨A4, k4, e4, _, _⟩ := hu'.form0
  obtain ⟨L1, hL1⟩ : ∃ L, L = l.length := ⟨_, rfl⟩
  obtain ⟨L2, hL2⟩ : ∃ L, L = r.length := ⟨_, rfl⟩
  obtain ⟨L3, hL3⟩ : ∃ L, L = l'.length := ⟨_, rfl⟩
  obtain ⟨L4, hL4⟩ : ∃ L, L = r'.length := ⟨_, rfl⟩
  rw [← hL1] at e1
  rw [← hL2] at e2
  rw [← hL3] at e3
  rw [← hL4] at e4
  subst e1
  subst e2
  subst e3
  subst e4
  have H1 := Lib.hid (hv.ext hx)
  have H2 := Lib.hid (hu.ext hx)
  have H3 := Lib.hid (hv'.ext hx)
  have H4 := Lib.hid (hu'.ext hx)
  have Hx := Lib.hid hx
  have Ha := Lib.hid ha
  have Hb := Lib.hid hb
  clear hv hu hv' hu' hx hx1 hx2 ha hb hL1 hL2 hL3 hL4
  have ca0 := Ha.out.c0
  have ca1 := Ha.out.c1
  have cb0 := Hb.out.c0
  have cb1 := Hb.out.c1
  by_cases h1 : n = n' ∧ l = l'
  · have Hh1 := Lib.hid h1
    clear h1
    go_enter Try.func16, Try.ntmps16
    have tok : True := trivial
    go_wp2_with (first | (go_at_call 22; clear tok; refine (eqRhythm_c n n' l l' _ _ _ H1.out H3.out).mono ?_; rintro e w2 ⟨b2, rfl, hb2, hx2⟩; (obtain rfl := hb2.2 Hh1.out; clear hb2; have da2 := (Ha.out.ext hx2).c2; have da3 := (Ha.out.ext hx2).c3; have db2 := (Hb.out.ext hx2).c2; have db3 := (Hb.out.ext hx2).c3)))
    have tok : True := trivial
    go_wp2_with (first | (go_at_call 22; clear tok; refine (eqRhythm_c m m' r r' _ _ _ (H2.out.ext hx2) (H4.out.ext hx2)).mono ?_; rintro e w3 ⟨b3, rfl, hb3, hx3⟩))
    all_goals
      go_ret
      exact ⟨_, rfl, by have := Hh1.out; simp_all, Hx.out.tr (hx2.tr hx3)⟩
  · have Hh1 := Lib.hid h1
    clear h1
    go_enter Try.func16, Try.ntmps16
    have tok : True := trivial
    go_wp2_with (first | (go_at_call 22; clear tok; refine (eqRhythm_c n n' l l' _ _ _ H1.out H3.out).mono ?_; rintro e w2 ⟨b2, rfl, hb2, hx2⟩; (obtain rfl := bool_f hb2 Hh1.out; clear hb2)))
    go_ret
    exact ⟨false, rfl, by have := Hh1.out; simp; intro h1 _ h2; exact absurd ⟨h1, h2⟩ this, Hx.out.tr hx2⟩
def MarkPostC (l r : List Int) (k B : Nat) (v u : Value) (w : World) (e : Ending) (w' : World) : Prop :=
  ∃ (q : Nat) (w1 : World), e = .returned (.int .i64 q) ∧ Hid (q = k + l.length + r.length) ∧ q ≤ k + l.length + r.length ∧ Own w1 B v (marks k l.length) ∧ w.grownBy w1 v.ownBlock ∧ Own w' B u (marks (k + l.length) r.length) ∧ w1.grownBy w' u.ownBlock
set_option maxRecDepth 100000 in
set_option maxHeartbeats 1000000 in
theorem markCanon_c (l r : List Int) (n m : Int) (k : Nat) (v u : Value) (w : World) {B : Nat} (hv : Own w B v l) (hu : Own w B u r) (hap : Apart v u) (hk : k ≤ 1000000000) (hl : l.length ≤ 1000000000) (hr : r.length ≤ 1000000000) :
    Calls Try.prog 17 #[.agg #[.int .i64 n, v, .int .i64 m, u], .int .i64 k] w (MarkPostC l r k B v u w) := by
  obtain ⟨A, na, c, rfl⟩ := hv.form
  obtain ⟨A', na', c', rfl⟩ := hu.form
  have hx := one_box w (.cells #[.int .i64 n, .slice A na c, .int .i64 m, .slice A' na' c'] 31)
  have Hx := Lib.hid hx
  have Ca := Lib.hid (CVar.new (T := 31) w n (.slice A na c) m (.slice A' na' c'))
  have Hv := Lib.hid (hv.ext hx)
  have Hu := Lib.hid (hu.ext hx)
  have Hu0 := Lib.hid hu
  have Hv0 := Lib.hid hv
  have Hap := Lib.hid hap
  have hc0 := Ca.out.c0
  have hc1 := Ca.out.c1
  clear hv hu hap hx
  go_enter Try.func17, Try.ntmps17
  have tok : True := trivial
  go_wp2_with (first | (go_at_call 23; clear tok; refine (markRhythm_q l n k _ _ Hv.out (by omega) (by omega)).mono ?_; rintro e w2 ⟨q2, rfl, hq2, hl2, hm2, hg2⟩; (have C2 := Lib.hid (Ca.out.kept hg2 (Hv0.out.ne_ge (Nat.le_refl _))); have hd2 := C2.out.c2; have hd3 := C2.out.c3)))
  have tok : True := trivial
  go_wp2_with (first | (go_at_call 23; clear tok; refine (markRhythm_q r m q2 _ _ (Hu.out.kept hg2 (Apart.rowC Hap.out)) (by omega) (by omega)).mono ?_; rintro e w3 ⟨q3, rfl, hq3, hl3, hm3, hg3⟩))
  go_ret
  refine ⟨q3, w2, rfl, ?_, by omega, hm2, grownBy_tr (grownBy_of_ext Hx.out _) hg2, ?_, hg3⟩
  · unfold Hid; rw [hq3.out, hq2.out]
  · rw [← hq2.out]; exact hm3
def HeldPostC (n n' k : Nat) (w : World) (e : Ending) (w' : World) : Prop := ∃ q : Nat, e = .returned (.int .i64 q) ∧ Hid (q = k + n + n') ∧ Ext w w'
set_option maxRecDepth 100000 in
set_option maxHeartbeats 1000000 in
theorem heldCanon_c (n n' : Nat) (z z' : Int) (k : Nat) (v u : Value) (w : World) (hv : Ints w v (marks k n)) (hu : Ints w u (marks (k + n) n')) (hk : k ≤ 1000000000) (hl : n ≤ 1000000000) (hr : n' ≤ 1000000000) :
    Calls Try.prog 27 #[.agg #[.int .i64 z, v, .int .i64 z', u], .int .i64 k] w (HeldPostC n n' k w) := by
  have hx := one_box w (.cells #[.int .i64 z, v, .int .i64 z', u] 31)
  have Hx := Lib.hid hx
  obtain ⟨A1, k1, e1, _, _⟩ := hv.form0
  obtain ⟨A2, k2, e2, _, _⟩ := hu.form0
  obtain ⟨L1, hL1⟩ : ∃ L, L = (marks k n).length := ⟨_, rfl⟩
  obtain ⟨L2, hL2⟩ : ∃ L, L = (marks (k + n) n').length := ⟨_, rfl⟩
  rw [← hL1] at e1
  rw [← hL2] at e2
  subst e1
  subst e2
  have Ca := Lib.hid (CVar.new (T := 31) w z (.slice A1 L1 k1) z' (.slice A2 L2 k2))
  have Hv := Lib.hid (hv.ext hx)
  have Hu := Lib.hid (hu.ext hx)
  have hc0 := Ca.out.c0
  have hc1 := Ca.out.c1
  clear hv hu hx hL1 hL2
  go_enter Try.func27, Try.ntmps27
  have tok : True := trivial
  go_wp2_with (first | (go_at_call 24; clear tok; refine (heldRhythm_q n z k _ _ Hv.out (by omega) (by omega)).mono ?_; rintro e w2 ⟨q2, rfl, hq2, hl2, hx2⟩; (have hd2 := (Ca.out.ext hx2).c2; have hd3 := (Ca.out.ext hx2).c3)))
  have Hu2 : Hid (Ints w2 (.slice A2 L2 k2) (marks q2 n')) := by unfold Hid; rw [hq2.out]; exact Hu.out.ext hx2
  have tok : True := trivial
  go_wp2_with (first | (go_at_call 24; clear tok; refine (heldRhythm_q n' z' q2 _ _ Hu2.out (by omega) (by omega)).mono ?_; rintro e w3 ⟨q3, rfl, hq3, hl3, hx3⟩))
  go_ret
  exact ⟨q3, rfl, by unfold Hid; rw [hq3.out, hq2.out], Hx.out.tr (hx2.tr hx3)⟩
end Go.Proofs.Ytaiigheknmndnaa
