/- Contracts: VoiceRhythm on both sides. -/
import Derived.Test.YtjecdmlojgmbeaaGreatDoorFcn
namespace Go.Proofs.YtjecdmlojgmbeaaGreatDoor
open Go.RowKit
def vrOk (n m : Int) (l r : List Int) (z : Int) : Prop := canOk n m l r ∧ 0 ≤ z ∧ z < r.length
instance (n m : Int) (l r : List Int) (z : Int) : Decidable (vrOk n m l r z) := by unfold vrOk; infer_instance
def vrB (n m : Int) (l r : List Int) (z : Int) : Bool := decide (vrOk n m l r z)
def vrN (n m : Int) (l r : List Int) (z : Int) : Int := if vrOk n m l r z then n else 0
def vrL (n m : Int) (l r : List Int) (z : Int) : List Int := if vrOk n m l r z then rotL n.toNat l (r.getD z.toNat 0) else []
theorem vr_t {n j : Nat} {m x : Int} {l r : List Int} (h : vrOk n m l r j) (hx : r[j]? = some x) : vrB n m l r j = true ∧ vrN n m l r j = n ∧ vrL n m l r j = rotL n l x := by
  unfold vrB vrN vrL; rw [if_pos h, if_pos h]; exact ⟨by simpa using h, rfl, by rw [← getD_of hx]; simp⟩
theorem vr_f {n m z : Int} {l r : List Int} (h : ¬ vrOk n m l r z) : vrB n m l r z = false ∧ vrN n m l r z = 0 ∧ vrL n m l r z = [] := by
  unfold vrB vrN vrL; rw [if_neg h, if_neg h]; exact ⟨by simpa using h, rfl, rfl⟩
theorem vrL_len (n m : Int) (l r : List Int) (z : Int) : (vrL n m l r z).length ≤ 1000000 := by
  unfold vrL
  split
  · rename_i h; have := rhL_len n.toNat (remL n.toNat (addL (r.getD z.toNat 0) l)); have := h.1.1.1.1; unfold rotL; omega
  · exact Nat.zero_le _
theorem cell_setAt {w : World} {p : Addr} {v x : Value} {b k : Nat} (h : w.cell? p = some v) (hne : p.block ≠ b) : (w.setCell ⟨b, k, none⟩ x).cell? p = some v :=
  (World.cell?_of_block (heap_setCell_other w ⟨b, k, none⟩ p.block x hne)).trans h
set_option maxRecDepth 100000 in
set_option maxHeartbeats 2000000 in
theorem voiceRhythm_c (n m : Int) (l r : List Int) (z : Int) (v u : Value) (w : World) (hv : Ints w v l) (hu : Ints w u r) : Calls Tryz.prog 14 #[.agg #[.int .i64 n, v, .int .i64 m, u], .int .i64 z] w (RRB (vrN n m l r z) (vrL n m l r z) (vrB n m l r z) w) := by
  have hu0 := hu
  obtain ⟨A, c, hve, _, _⟩ := hv.form0
  obtain ⟨A', c', hue, _, _⟩ := hu.form0
  obtain ⟨k, hk⟩ : ∃ k, k = l.length := ⟨_, rfl⟩
  obtain ⟨k', hk'⟩ : ∃ k', k' = r.length := ⟨_, rfl⟩
  rw [← hk] at hve
  rw [← hk'] at hue
  subst hve
  subst hue
  have hx := one_box w (.cells #[.int .i64 n, .slice A k c, .int .i64 m, .slice A' k' c'] 29)
  have ha := CVar.new (T := 29) w n (.slice A k c) m (.slice A' k' c')
  have Hk := Lib.hid hk
  have Hk' := Lib.hid hk'
  have Hv := Lib.hid (hv.ext hx)
  have Hu := Lib.hid (hu.ext hx)
  have Hx := Lib.hid hx
  have Ca := Lib.hid ha
  clear hv hu hx hk hk' ha
  have Hu0 := Lib.hid hu0
  clear hu0
  have hr0 := RVar.new (T := 25) (w.alloc (.cells #[.int .i64 n, .slice A k c, .int .i64 m, .slice A' k' c'] 29)) 0 (.slice none 0 0)
  have hx2 := one_box (w.alloc (.cells #[.int .i64 n, .slice A k c, .int .i64 m, .slice A' k' c'] 29)) (.cells #[.int .i64 0, .slice none 0 0] 25)
  have Hr0 := Lib.hid hr0
  simp only [World.size_alloc] at hr0
  have Hr := Lib.hid hr0
  have Hc := Lib.hid (Ca.out.ext hx2)
  have Hv2 := Lib.hid (Hv.out.ext hx2)
  have Hu2 := Lib.hid (Hu.out.ext hx2)
  have Hx2 := Lib.hid hx2
  have hc0 := Hc.out.c0
  have hc1 := Hc.out.c1
  have hc2 := Hc.out.c2
  have hc3 := Hc.out.c3
  clear hr0 hx2
  have hk6 : k' ≤ 9223372036854775807 := by rw [Hk'.out]; exact Hu.out.len
  by_cases hs : canOk n m l r
  · have Hs := Lib.hid hs
    by_cases hz : 0 ≤ z ∧ z ≤ (k' : Int) - 1
    · obtain ⟨j, rfl⟩ := Int.eq_ofNat_of_zero_le hz.1
      have hj : j < k' := by omega
      obtain ⟨nn, hnn, hn1, hn24, hlen, hl⟩ := hs.1.1.nat
      obtain ⟨nn', hnn', _, _, hlen', hl'⟩ := hs.1.2.1.nat
      have hnm := hs.1.2.2
      subst hnm
      subst hnn
      obtain rfl : nn = nn' := by omega
      obtain ⟨x, hx⟩ : ∃ x, r[j]? = some x := ⟨_, List.getElem?_eq_getElem (by rw [← Hk'.out]; exact hj)⟩
      have H := Lib.hid (vr_t (n := nn) ⟨hs, by omega, by rw [← Hk'.out]; omega⟩ hx)
      have hxr := hl' x (List.mem_of_getElem? hx)
      obtain ⟨ad, cc, hA, _, _⟩ := Hu.out.form (by rw [← Hk'.out]; omega)
      obtain ⟨rfl, rfl⟩ : A' = some ad ∧ c' = cc := by simp only [Value.slice.injEq] at hA; exact ⟨hA.1, hA.2.2⟩
      have Hxx := Lib.hid hx
      have hbl : (ad.add j).block ≠ w.heap.size + 1 := by have := World.block_lt_of_cell? w _ (Hu0.out.cell hx); omega
      have hne : w.heap.size ≠ w.heap.size + 1 := by omega
      have Hl := Lib.hid hl
      have Hlen := Lib.hid hlen
      have hj2 : (j : Int) < (k' : Int) := by omega
      have hx1000 : -1000000 ≤ x ∧ x ≤ 1000000 := by omega
      clear hs hl hl' hlen hlen' hx hA
      go_enter Tryz.func14, Tryz.ntmps14
      go_wp2_with (first | (go_at_call 9; refine (canonOk_c (nn : Int) (nn : Int) l r _ _ _ Hv2.out Hu2.out).mono ?_; rintro e w3 ⟨b3, rfl, hb3, hx3⟩; (obtain rfl := hb3.2 Hs.out; clear hb3; have hd3 := (Hc.out.ext hx3).c3)) | (go_at_call 30; refine (within_t _ ?_).mono ?_; (focus omega); rintro e w1 ⟨rfl, rfl⟩) | (go_at_call 30; refine (within_f _ ?_).mono ?_; (focus omega); rintro e w1 ⟨rfl, rfl⟩))
      have C3 := Lib.hid (Hc.out.ext hx3)
      have hd0 := C3.out.c0
      have hd1 := C3.out.c1
      have hcx := (Hu2.out.ext hx3).cell Hxx.out
      clear hc0 hc1 hc2 hc3
      first
        | (go_region_held3 (fun w' => w'.cell? ⟨w.heap.size, 0, none⟩ = some (.int .i64 nn) ∧ w'.cell? ⟨w.heap.size, 1, none⟩ = some (.slice A k c) ∧ w'.cell? ⟨w.heap.size, 3, none⟩ = some (.slice (some ad) k' c') ∧ w'.cell? (ad.add j) = some (.int .i64 x))
            (first
              | with_reducible exact ⟨(((C3.out.extD hx4).other hne).other hne).c0, (((C3.out.extD hx4).other hne).other hne).c1, (((C3.out.extD hx4).other hne).other hne).c3, cell_setAt (cell_setAt ((Ext.ofD hx4).cell_of hcx) hbl) hbl⟩
              | with_reducible exact ⟨(C3.out.extD hx4).c0, (C3.out.extD hx4).c1, (C3.out.extD hx4).c3, (Ext.ofD hx4).cell_of hcx⟩
              | (go_keep; done)
              | (refine ⟨?_, ?_, ?_, ?_⟩ <;> (go_keep; done)))
            (first
              | (go_at_call 23; refine (rotated_c nn l x _ _ (Hv2.out.ext hx3).drew ⟨hn1, hn24⟩ Hl.out Hlen.out hx1000).mono ?_; rintro e w4 ⟨v4, rfl, ho4, hx4⟩; obtain ⟨A4, n4, c4, rfl⟩ := ho4.form; have R4 := Lib.hid ((Hr.out.ext hx3).extD hx4); have e0 := R4.out.c0; have f0 := R4.out.f 0; have e1 := (R4.out.set0 (m := (nn : Int))).c1; have f1 := (R4.out.set0 (m := (nn : Int))).f 1)))
        | fail
      all_goals
        have hz3 : w.heap.size + 1 + 1 ≤ w3.heap.size := by have := hx3.size; simp only [World.size_alloc] at this; exact this
        have Fin := Lib.hid (ret_fin (n := (nn : Int)) ((Hr0.out.ext hx3).extD hx4) ho4 (by simp only [World.size_alloc]; exact hz3) (Hx2.out.tr (hx3.tr (Ext.ofD hx4))))
        have hcf0 := Fin.out.1.c0
        have hcf1 := Fin.out.1.c1
        have ho6 := Fin.out.2.1.base (B' := w.heap.size) (by simp)
        have hx6 := Hx.out.tr Fin.out.2.2
        simp only [World.size_alloc] at hcf0 hcf1 ho6 hx6
        go_wp2
        exact bodyPost_ret (v := .tuple #[.agg #[.int .i64 nn, .slice A4 n4 c4], .bool true]) (by simp [results, Tryz.results14, hcf0, hcf1, go_sem]) rfl ⟨_, by rw [H.out.1, H.out.2.1], by rw [H.out.2.2]; exact ho6, hx6⟩
    · have H := Lib.hid (vr_f (n := n) (m := m) (l := l) (r := r) (z := z) (fun h => hz ⟨h.2.1, by have := h.2.2; rw [← Hk'.out] at this; omega⟩))
      clear hs
      go_enter Tryz.func14, Tryz.ntmps14
      go_wp2_with (first | (go_at_call 9; refine (canonOk_c n m l r _ _ _ Hv2.out Hu2.out).mono ?_; rintro e w3 ⟨b3, rfl, hb3, hx3⟩; (obtain rfl := hb3.2 Hs.out; clear hb3; have hd3 := (Hc.out.ext hx3).c3; have R3 := Lib.hid (Hr.out.ext hx3); have e0 := R3.out.c0; have f0 := R3.out.f 0; have e1 := (R3.out.set0 (m := 0)).c1; have f1 := (R3.out.set0 (m := 0)).f 1)) | (go_at_call 30; refine (within_t _ ?_).mono ?_; (focus omega); rintro e w1 ⟨rfl, rfl⟩) | (go_at_call 30; refine (within_f _ ?_).mono ?_; (focus omega); rintro e w1 ⟨rfl, rfl⟩))
      have Fin := Lib.hid (ret_fin (n := 0) (Hr0.out.ext hx3) (Own.nil _ _) (Nat.le_refl _) (Hx2.out.tr hx3))
      have hcf0 := Fin.out.1.c0
      have hcf1 := Fin.out.1.c1
      have hx6 := Hx.out.tr Fin.out.2.2
      simp only [World.size_alloc] at hcf0 hcf1 hx6
      exact bodyPost_ret (v := .tuple #[.agg #[.int .i64 0, .slice none 0 0], .bool false]) (by simp [results, Tryz.results14, hcf0, hcf1, go_sem]) rfl ⟨_, by rw [H.out.1, H.out.2.1], by rw [H.out.2.2]; exact Own.nil _ _, hx6⟩
  · have H := Lib.hid (vr_f (n := n) (m := m) (l := l) (r := r) (z := z) (fun h => hs h.1))
    have Hs := Lib.hid hs
    clear hs
    go_enter Tryz.func14, Tryz.ntmps14
    go_wp2_with (first | (go_at_call 9; refine (canonOk_c n m l r _ _ _ Hv2.out Hu2.out).mono ?_; rintro e w3 ⟨b3, rfl, hb3, hx3⟩; (obtain rfl := bool_f hb3 Hs.out; clear hb3; have R3 := Lib.hid (Hr.out.ext hx3); have e0 := R3.out.c0; have f0 := R3.out.f 0; have e1 := (R3.out.set0 (m := 0)).c1; have f1 := (R3.out.set0 (m := 0)).f 1)))
    have Fin := Lib.hid (ret_fin (n := 0) (Hr0.out.ext hx3) (Own.nil _ _) (Nat.le_refl _) (Hx2.out.tr hx3))
    have hcf0 := Fin.out.1.c0
    have hcf1 := Fin.out.1.c1
    have hx6 := Hx.out.tr Fin.out.2.2
    simp only [World.size_alloc] at hcf0 hcf1 hx6
    exact bodyPost_ret (v := .tuple #[.agg #[.int .i64 0, .slice none 0 0], .bool false]) (by simp [results, Tryz.results14, hcf0, hcf1, go_sem]) rfl ⟨_, by rw [H.out.1, H.out.2.1], by rw [H.out.2.2]; exact Own.nil _ _, hx6⟩
end Go.Proofs.YtjecdmlojgmbeaaGreatDoor
