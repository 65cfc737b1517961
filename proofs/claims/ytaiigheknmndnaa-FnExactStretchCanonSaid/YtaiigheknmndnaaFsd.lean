/- Contracts: StretchCanon on both sides. -/
import Derived.Test.YtaiigheknmndnaaFsc
namespace Go.Proofs.Ytaiigheknmndnaa
open Go.RowKit
def scOk (n m : Int) (l r : List Int) (z : Int) : Prop := canOk n m l r ∧ uniOk z n.toNat
instance (n m : Int) (l r : List Int) (z : Int) : Decidable (scOk n m l r z) := by unfold scOk; infer_instance
def scB (n m : Int) (l r : List Int) (z : Int) : Bool := decide (scOk n m l r z)
def scN (n m : Int) (l r : List Int) (z : Int) : Int := if scOk n m l r z then n else 0
def scI (n m : Int) (l r : List Int) (z : Int) : List Int := if scOk n m l r z then strL n.toNat l z else []
def scO (n m : Int) (l r : List Int) (z : Int) : List Int := if scOk n m l r z then rotL n.toNat r 0 else []
theorem sc_t {n : Nat} {m z : Int} {l r : List Int} (h : scOk n m l r z) : scB n m l r z = true ∧ scN n m l r z = n ∧ scI n m l r z = strL n l z ∧ scO n m l r z = rotL n r 0 := by
  unfold scB scN scI scO; rw [if_pos h, if_pos h, if_pos h]; exact ⟨by simpa using h, rfl, by simp, by simp⟩
theorem sc_f {n m z : Int} {l r : List Int} (h : ¬ scOk n m l r z) : scB n m l r z = false ∧ scN n m l r z = 0 ∧ scI n m l r z = [] ∧ scO n m l r z = [] := by
  unfold scB scN scI scO; rw [if_neg h, if_neg h, if_neg h]; exact ⟨by simpa using h, rfl, rfl, rfl⟩
theorem sc_len (n m : Int) (l r : List Int) (z : Int) : (scI n m l r z).length ≤ 1000000 ∧ (scO n m l r z).length ≤ 1000000 := by
  by_cases h : scOk n m l r z
  · obtain ⟨nn, rfl, _, h24, _⟩ := h.1.1.1.nat
    rw [(sc_t h).2.2.1, (sc_t h).2.2.2]
    have h1 := rhL_len nn (remL nn (timL z l))
    have h2 := rhL_len nn (remL nn (addL 0 r))
    unfold strL rotL; omega
  · rw [(sc_f h).2.2.1, (sc_f h).2.2.2]; simp
theorem uni_100 {z : Int} {n : Nat} (h : uniOk z n) (hn : n ≤ 24) : 0 ≤ z ∧ z ≤ 100 := by unfold uniOk at h; omega
set_option maxRecDepth 100000 in
set_option maxHeartbeats 2000000 in
theorem stretchCanon_c (n m : Int) (l r : List Int) (z : Int) (v u : Value) (w : World) (hv : Ints w v l) (hu : Ints w u r) : Calls Try.prog 31 #[.agg #[.int .i64 n, v, .int .i64 m, u], .int .i64 z] w (RCB (scN n m l r z) (scI n m l r z) (scN n m l r z) (scO n m l r z) (scB n m l r z) w) := by
  obtain ⟨A, c, hve, _, _⟩ := hv.form0
  obtain ⟨A', c', hue, _, _⟩ := hu.form0
  obtain ⟨k, hk⟩ : ∃ k, k = l.length := ⟨_, rfl⟩
  obtain ⟨k', hk'⟩ : ∃ k', k' = r.length := ⟨_, rfl⟩
  rw [← hk] at hve
  rw [← hk'] at hue
  subst hve
  subst hue
  have hx := one_box w (.cells #[.int .i64 n, .slice A k c, .int .i64 m, .slice A' k' c'] 31)
  have ha := CVar.new (T := 31) w n (.slice A k c) m (.slice A' k' c')
  have Hk := Lib.hid hk
  have Hk' := Lib.hid hk'
  have Hv := Lib.hid (hv.ext hx)
  have Hu := Lib.hid (hu.ext hx)
  have Hx := Lib.hid hx
  have Ca := Lib.hid ha
  clear hv hu hx hk hk' ha
  have hr0 := CVar.new (T := 31) (w.alloc (.cells #[.int .i64 n, .slice A k c, .int .i64 m, .slice A' k' c'] 31)) 0 (.slice none 0 0) 0 (.slice none 0 0)
  have hx2 := one_box (w.alloc (.cells #[.int .i64 n, .slice A k c, .int .i64 m, .slice A' k' c'] 31)) (.cells #[.int .i64 0, .slice none 0 0, .int .i64 0, .slice none 0 0] 31)
  simp only [World.size_alloc] at hr0
  have Hr := Lib.hid hr0
  have Hc := Lib.hid (Ca.out.ext hx2)
  have Hv2 := Lib.hid (Hv.out.ext hx2)
  have Hu2 := Lib.hid (Hu.out.ext hx2)
  have Hx2 := Lib.hid (Hx.out.tr hx2)
  have hc0 := Hc.out.c0
  have hc1 := Hc.out.c1
  have hc2 := Hc.out.c2
  have hc3 := Hc.out.c3
  have hne : w.heap.size ≠ w.heap.size + 1 := by omega
  clear hr0 hx2
  by_cases hs : canOk n m l r
  · have Hs := Lib.hid hs
    obtain ⟨nn, hnn, hn1, hn24, hlen, hl⟩ := hs.1.1.nat
    obtain ⟨nn', hnn', _, _, hlen', hl'⟩ := hs.1.2.1.nat
    have hnm := hs.1.2.2
    subst hnm
    subst hnn
    obtain rfl : nn = nn' := by omega
    have hn' : 1 ≤ nn ∧ nn ≤ 24 := ⟨hn1, hn24⟩
    by_cases hun : uniOk z nn
    · have Hun := Lib.hid hun
      have H := Lib.hid (sc_t (n := nn) (z := z) ⟨hs, by simpa using hun⟩)
      have hz100 := uni_100 hun hn24
      have Hl := Lib.hid hl
      have Hl' := Lib.hid hl'
      have Hlen := Lib.hid hlen
      have Hlen' := Lib.hid hlen'
      clear hs hl hl' hlen hlen' hun
      go_enter Try.func31, Try.ntmps31
      go_wp2_with (first | (go_at_call 46; refine (canonOk_c (nn : Int) (nn : Int) l r _ _ _ Hv2.out Hu2.out).mono ?_; rintro e w3 ⟨b3, rfl, hb3, hx3⟩; (obtain rfl := hb3.2 Hs.out; clear hb3; have hg0 := (Hc.out.ext hx3).c0)) | (go_at_call 55; refine (isUnit_c z nn _ hn').mono ?_; rintro e w6 ⟨b6, rfl, hb6, hx6⟩; (obtain rfl := hb6.2 Hun.out; clear hb6)))
      have X6 := Lib.hid (hx3.tr hx6)
      have C3 := Lib.hid (Hc.out.ext X6.out)
      have R3 := Lib.hid (Hr.out.ext X6.out)
      have hd0 := C3.out.c0
      have hd1 := C3.out.c1
      have hd2 := C3.out.c2
      have hd3 := C3.out.c3
      clear hc0 hc1 hc2 hc3 hg0
      have tok1 : True := trivial
      have tok2 : True := trivial
      first
        | (go_region_held3 (fun w' => w'.cell? ⟨w.heap.size, 0, none⟩ = some (.int .i64 nn) ∧ w'.cell? ⟨w.heap.size, 1, none⟩ = some (.slice A k c) ∧ w'.cell? ⟨w.heap.size, 2, none⟩ = some (.int .i64 nn) ∧ w'.cell? ⟨w.heap.size, 3, none⟩ = some (.slice A' k' c'))
            (first
              | with_reducible exact ⟨((((((C3.out.extD hx4).ext hx5).other hne).other hne).other hne).other hne).c0, ((((((C3.out.extD hx4).ext hx5).other hne).other hne).other hne).other hne).c1, ((((((C3.out.extD hx4).ext hx5).other hne).other hne).other hne).other hne).c2, ((((((C3.out.extD hx4).ext hx5).other hne).other hne).other hne).other hne).c3⟩
              | with_reducible exact ⟨((C3.out.extD hx4).ext hx5).c0, ((C3.out.extD hx4).ext hx5).c1, ((C3.out.extD hx4).ext hx5).c2, ((C3.out.extD hx4).ext hx5).c3⟩
              | with_reducible exact ⟨(C3.out.extD hx4).c0, (C3.out.extD hx4).c1, (C3.out.extD hx4).c2, (C3.out.extD hx4).c3⟩
              | (go_keep; done)
              | (refine ⟨?_, ?_, ?_, ?_⟩ <;> (go_keep; done)))
            (first
              | (go_at_call 56; clear tok1; refine (stretched_c nn l z _ _ (Hv2.out.ext X6.out).drew hn' Hl.out Hlen.out hz100).mono ?_; rintro e w4 ⟨v4, rfl, ho4, hx4⟩; obtain ⟨A4, n4, c4, rfl⟩ := ho4.form)
              | (go_at_call 51; clear tok2; refine (rotated_c nn r 0 _ _ ((Hu2.out.ext X6.out).ext (Ext.ofD hx4)) hn' Hl'.out Hlen'.out (by omega)).mono ?_; rintro e w5 ⟨v5, rfl, ho5, hx5⟩; obtain ⟨A5, n5, c5, rfl⟩ := ho5.form; have R5 := Lib.hid ((R3.out.extD hx4).ext hx5); have d0 := R5.out.c0; have p0 := R5.out.f 0; have d1 := (R5.out.set0 (k := (nn : Int))).c1; have p1 := (R5.out.set0 (k := (nn : Int))).f 1; have d2 := ((R5.out.set0 (k := (nn : Int))).set1 (x := (.slice A4 n4 c4))).c2; have p2 := ((R5.out.set0 (k := (nn : Int))).set1 (x := (.slice A4 n4 c4))).f 2; have d3 := (((R5.out.set0 (k := (nn : Int))).set1 (x := (.slice A4 n4 c4))).set2 (k := (nn : Int))).c3; have p3 := (((R5.out.set0 (k := (nn : Int))).set1 (x := (.slice A4 n4 c4))).set2 (k := (nn : Int))).f 3)))
        | fail
      all_goals
        have hz3 : w.heap.size + 1 < w6.heap.size := by have := X6.out.size; simp only [World.size_alloc] at this; omega
        have hz4 := (Ext.ofD hx4).size
        have Hap : Hid (Apart (.slice A4 n4 c4) (.slice A5 n5 c5)) := Own.apart ho4 ho5
        have Fin := Lib.hid (retc_fin (n := (nn : Int)) (m := (nn : Int)) R5.out ((ho4.ext hx5).base (B' := w6.heap.size) (Nat.le_refl _)) (ho5.base (B' := w6.heap.size) hz4) (by omega) (Hx2.out.tr (X6.out.tr ((Ext.ofD hx4).tr hx5))) (by omega))
        have q0 := Fin.out.1.c0
        have q1 := Fin.out.1.c1
        have q2 := Fin.out.1.c2
        have q3 := Fin.out.1.c3
        go_wp2
        exact bodyPost_ret (v := .tuple #[.agg #[.int .i64 nn, .slice A4 n4 c4, .int .i64 nn, .slice A5 n5 c5], .bool true]) (by simp [results, Try.results31, q0, q1, q2, q3, go_sem]) rfl ⟨_, _, by rw [H.out.1, H.out.2.1], by rw [H.out.2.2.1]; exact Fin.out.2.1.base (by omega), by rw [H.out.2.2.2]; exact Fin.out.2.2.1.base (by omega), Hap.out, Fin.out.2.2.2⟩
    · have H := Lib.hid (sc_f (n := (nn : Int)) (m := (nn : Int)) (l := l) (r := r) (z := z) (fun h => hun (by simpa using h.2)))
      have Hun := Lib.hid hun
      clear hs hl hl' hlen hlen' hun
      go_enter Try.func31, Try.ntmps31
      go_wp2_with (first | (go_at_call 46; refine (canonOk_c (nn : Int) (nn : Int) l r _ _ _ Hv2.out Hu2.out).mono ?_; rintro e w3 ⟨b3, rfl, hb3, hx3⟩; (obtain rfl := hb3.2 Hs.out; clear hb3; have hg0 := (Hc.out.ext hx3).c0)) | (go_at_call 55; refine (isUnit_c z nn _ hn').mono ?_; rintro e w6 ⟨b6, rfl, hb6, hx6⟩; (obtain rfl := bool_f hb6 Hun.out; clear hb6; have R3 := Lib.hid (Hr.out.ext (hx3.tr hx6)); have d0 := R3.out.c0; have p0 := R3.out.f 0; have d1 := (R3.out.set0 (k := 0)).c1; have p1 := (R3.out.set0 (k := 0)).f 1; have d2 := ((R3.out.set0 (k := 0)).set1 (x := (.slice none 0 0))).c2; have p2 := ((R3.out.set0 (k := 0)).set1 (x := (.slice none 0 0))).f 2; have d3 := (((R3.out.set0 (k := 0)).set1 (x := (.slice none 0 0))).set2 (k := 0)).c3; have p3 := (((R3.out.set0 (k := 0)).set1 (x := (.slice none 0 0))).set2 (k := 0)).f 3)))
      have Fin := Lib.hid (retc_fin (n := 0) (m := 0) (B := w.heap.size + 2) R3.out (Own.nil _ _) (Own.nil _ _) (by omega) (Hx2.out.tr (hx3.tr hx6)) (by omega))
      have q0 := Fin.out.1.c0
      have q1 := Fin.out.1.c1
      have q2 := Fin.out.1.c2
      have q3 := Fin.out.1.c3
      exact bodyPost_ret (v := .tuple #[.agg #[.int .i64 0, .slice none 0 0, .int .i64 0, .slice none 0 0], .bool false]) (by simp [results, Try.results31, q0, q1, q2, q3, go_sem]) rfl ⟨_, _, by rw [H.out.1, H.out.2.1], by rw [H.out.2.2.1]; exact Own.nil _ _, by rw [H.out.2.2.2]; exact Own.nil _ _, Apart.nil _, Fin.out.2.2.2⟩
  · have H := Lib.hid (sc_f (n := n) (m := m) (l := l) (r := r) (z := z) (fun h => hs h.1))
    have Hs := Lib.hid hs
    clear hs
    go_enter Try.func31, Try.ntmps31
    go_wp2_with (first | (go_at_call 46; refine (canonOk_c n m l r _ _ _ Hv2.out Hu2.out).mono ?_; rintro e w3 ⟨b3, rfl, hb3, hx3⟩; (obtain rfl := bool_f hb3 Hs.out; clear hb3; have R3 := Lib.hid (Hr.out.ext hx3); have d0 := R3.out.c0; have p0 := R3.out.f 0; have d1 := (R3.out.set0 (k := 0)).c1; have p1 := (R3.out.set0 (k := 0)).f 1; have d2 := ((R3.out.set0 (k := 0)).set1 (x := (.slice none 0 0))).c2; have p2 := ((R3.out.set0 (k := 0)).set1 (x := (.slice none 0 0))).f 2; have d3 := (((R3.out.set0 (k := 0)).set1 (x := (.slice none 0 0))).set2 (k := 0)).c3; have p3 := (((R3.out.set0 (k := 0)).set1 (x := (.slice none 0 0))).set2 (k := 0)).f 3)))
    have Fin := Lib.hid (retc_fin (n := 0) (m := 0) (B := w.heap.size + 2) R3.out (Own.nil _ _) (Own.nil _ _) (by omega) (Hx2.out.tr hx3) (by omega))
    have q0 := Fin.out.1.c0
    have q1 := Fin.out.1.c1
    have q2 := Fin.out.1.c2
    have q3 := Fin.out.1.c3
    exact bodyPost_ret (v := .tuple #[.agg #[.int .i64 0, .slice none 0 0, .int .i64 0, .slice none 0 0], .bool false]) (by simp [results, Try.results31, q0, q1, q2, q3, go_sem]) rfl ⟨_, _, by rw [H.out.1, H.out.2.1], by rw [H.out.2.2.1]; exact Own.nil _ _, by rw [H.out.2.2.2]; exact Own.nil _ _, Apart.nil _, Fin.out.2.2.2⟩
end Go.Proofs.Ytaiigheknmndnaa
