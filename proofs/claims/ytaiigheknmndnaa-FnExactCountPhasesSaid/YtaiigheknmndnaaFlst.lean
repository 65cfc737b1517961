/- Contract: l04Least (the greatest rotation). -/
import Derived.Test.YtaiigheknmndnaaFcod
namespace Go.Proofs.Ytaiigheknmndnaa
open Go.RowKit
theorem Ext.setAtQ {w a : World} (h : Ext w a) (b k : Nat) (x : Value) (hb : w.heap.size ≤ b) : Ext w (a.setCell ⟨b, k, none⟩ x) := Below.setCell h hb x
theorem ret_at {w wr : World} {B b : Nat} {n m : Int} {u v : Value} {l : List Int} (h : RVar wr b m u) (ho : Own wr B v l) (hb : b < B) (hx : Ext w wr) (hwb : w.heap.size ≤ b) :
    RVar ((wr.setCell ⟨b, 0, none⟩ (.int .i64 n)).setCell ⟨b, 1, none⟩ v) b n v ∧ Own ((wr.setCell ⟨b, 0, none⟩ (.int .i64 n)).setCell ⟨b, 1, none⟩ v) B v l ∧ Ext w ((wr.setCell ⟨b, 0, none⟩ (.int .i64 n)).setCell ⟨b, 1, none⟩ v) :=
  ⟨h.set0.set1, (ho.other hb).other hb, (hx.setAtQ b 0 _ hwb).setAtQ b 1 _ hwb⟩
set_option maxRecDepth 100000 in
set_option maxHeartbeats 2000000 in
theorem l04Least_c (n : Nat) (l : List Int) (v : Value) (w : World) (hv : Ints w v l) (hn : 1 ≤ n ∧ n ≤ 24) (hl : ∀ x ∈ l, 0 ≤ x ∧ x < n) (hlen : l.length ≤ n) : Calls Try.prog 67 #[.agg #[.int .i64 n, v]] w (RR n (mxUp n l n) w) := by
  obtain ⟨A, c, hve, _, _⟩ := hv.form0
  obtain ⟨m, hm⟩ : ∃ m, m = l.length := ⟨_, rfl⟩
  have Hlen := Lib.hid hlen
  rw [← hm] at hve
  subst hve
  obtain ⟨W, hW⟩ : ∃ W, W = (w.alloc (.cells #[.int .i64 (n : Int), .slice A m c] 29)).alloc (.cells #[.int .i64 0, .slice none 0 0] 29) := ⟨_, rfl⟩
  have hx : Ext w W := by rw [hW]; exact two_boxes w _ _
  have hsW : W.heap.size = w.heap.size + 2 := by rw [hW]; simp
  have h1 : RVar W w.heap.size (n : Int) (.slice A m c) := by rw [hW]; exact (RVar.new (T := 29) w (n : Int) (.slice A m c)).ext (one_box _ _)
  have h2 : RVar W (w.heap.size + 1) 0 (.slice none 0 0) := by
    rw [hW]
    simpa only [World.size_alloc] using RVar.new (T := 29) (w.alloc (.cells #[.int .i64 (n : Int), .slice A m c] 29)) 0 (.slice none 0 0)
  have Hv := Lib.hid (hv.ext hx)
  have Hx := Lib.hid hx
  have R1 := Lib.hid h1
  have R2 := Lib.hid h2
  have Hl := Lib.hid hl
  have HsW := Lib.hid hsW
  have hc1 := h1.c0
  have hc2 := h1.c1
  rw [hW] at hc1 hc2
  have Hn := Lib.hid hn
  obtain ⟨hn1, hn24⟩ := hn
  have hn1i : (1 : Int) ≤ (n : Int) := by omega
  clear hv hx hm h1 h2 hl hlen hsW
  have HW := Lib.hid hW
  go_enter Try.func67, Try.ntmps67
  go_wp2_with (first | (go_at_call 49; refine (l02Map1_c n l 0 _ _ (show Ints _ _ _ by rw [← HW.out]; exact Hv.out) Hn.out Hl.out Hlen.out (by omega)).mono ?_; rintro e w3 ⟨v3, rfl, how3, hxw3⟩; rw [← HW.out] at how3 hxw3; obtain ⟨A3, n3, c3, rfl⟩ := how3.form; clear hc1 hc2))
  go_loopw [4] (fun i wr => ∃ (k : Nat) (u : Value), 1 ≤ k ∧ k ≤ n ∧ i = .int .i64 k ∧ Hid (RVar wr w3.heap.size n u ∧ Own wr W.heap.size u (mxUp n l k) ∧ Ext W wr)) (fun i _ => n - (intOf i).toNat)
  case atStart => exact ⟨1, _, by omega, hn1, rfl, RVar.new w3 _ _, by rw [mxUp_one]; exact how3.ext (one_box w3 _), hxw3.tr (one_box w3 _)⟩
  case round =>
    obtain ⟨k, u, hk1, hkn, rfl, hr⟩ := hrel
    obtain ⟨Au, nu, cu, rfl⟩ := hr.out.2.1.form
    have hc1 := (R1.out.ext hr.out.2.2).c0
    have hc2 := (R1.out.ext hr.out.2.2).c1
    by_cases hkl : k < n
    · by_cases hgt : cod n (mxUp n l k) < cod n (rotL n l k)
      · have Hgt := Lib.hid hgt
        have Hk := Lib.hid (mxUp_t hgt)
        clear hgt
        go_wp2_with (first | (go_at_call 49; refine (l02Map1_c n l (k : Int) _ _ (Hv.out.ext hr.out.2.2) Hn.out Hl.out Hlen.out (by omega)).mono ?_; rintro e w4 ⟨v4, rfl, how4, hxw4⟩; obtain ⟨A4, n4, c4, rfl⟩ := how4.form; have X4 := Lib.hid (hxw4.tr (one_box w4 (.cells #[.int .i64 (n : Int), .slice A4 n4 c4] 29))); have Rb := Lib.hid (hr.out.1.ext X4.out); have Rx := Lib.hid (RVar.new (T := 29) w4 (n : Int) (.slice A4 n4 c4)); have p0 := Rb.out.c0; have p1 := Rb.out.c1; have p2 := Rx.out.c0; have p3 := Rx.out.c1) | (go_at_call 93; refine (l04After_c n (rotL n l k) (mxUp n l k) _ _ _ (how4.ext (one_box w4 (.cells #[.int .i64 (n : Int), .slice A4 n4 c4] 29))).ints (hr.out.2.1.ext X4.out).ints Hn.out (fun x hx => rotL_mem hx) (mxUp_mem n l k)).mono ?_; rintro e w5 ⟨b5, rfl, hbw5, hxw5⟩; obtain rfl := hbw5.2 Hgt.out; clear hbw5; have q2 := (Rx.out.ext hxw5).c0; have q3 := (Rx.out.ext hxw5).c1; have d0 := (Rb.out.ext hxw5).c0; have f0 := (Rb.out.ext hxw5).f 0; have d1 := ((Rb.out.ext hxw5).set0 (m := (n : Int))).c1; have f1 := ((Rb.out.ext hxw5).set0 (m := (n : Int))).f 1))
        have Fin := Lib.hid (ret_at (w := W) (n := (n : Int)) (Rb.out.ext hxw5) ((how4.ext (one_box w4 (.cells #[.int .i64 (n : Int), .slice A4 n4 c4] 29))).ext hxw5) hr.out.1.lt (hr.out.2.2.tr (X4.out.tr hxw5)) hxw3.size)
        go_roundw
        case rel => exact ⟨k + 1, _, by omega, by omega, by go_num, by unfold Hid; rw [Hk.out]; exact ⟨Fin.out.1, Fin.out.2.1.base hr.out.2.2.size, Fin.out.2.2⟩⟩
        case measure => simp [intOf]; omega
      · have Hgt := Lib.hid hgt
        have Hk := Lib.hid (mxUp_f hgt)
        clear hgt
        go_wp2_with (first | (go_at_call 49; refine (l02Map1_c n l (k : Int) _ _ (Hv.out.ext hr.out.2.2) Hn.out Hl.out Hlen.out (by omega)).mono ?_; rintro e w4 ⟨v4, rfl, how4, hxw4⟩; obtain ⟨A4, n4, c4, rfl⟩ := how4.form; have X4 := Lib.hid (hxw4.tr (one_box w4 (.cells #[.int .i64 (n : Int), .slice A4 n4 c4] 29))); have Rb := Lib.hid (hr.out.1.ext X4.out); have Rx := Lib.hid (RVar.new (T := 29) w4 (n : Int) (.slice A4 n4 c4)); have p0 := Rb.out.c0; have p1 := Rb.out.c1; have p2 := Rx.out.c0; have p3 := Rx.out.c1) | (go_at_call 93; refine (l04After_c n (rotL n l k) (mxUp n l k) _ _ _ (how4.ext (one_box w4 (.cells #[.int .i64 (n : Int), .slice A4 n4 c4] 29))).ints (hr.out.2.1.ext X4.out).ints Hn.out (fun x hx => rotL_mem hx) (mxUp_mem n l k)).mono ?_; rintro e w5 ⟨b5, rfl, hbw5, hxw5⟩; obtain rfl := bool_f hbw5 Hgt.out; clear hbw5))
        go_roundw
        case rel => exact ⟨k + 1, .slice Au nu cu, by omega, by omega, by go_num, by unfold Hid; rw [Hk.out]; exact ⟨Rb.out.ext hxw5, (hr.out.2.1.ext X4.out).ext hxw5, hr.out.2.2.tr (X4.out.tr hxw5)⟩⟩
        case measure => simp [intOf]; omega
    · obtain rfl : k = n := by omega
      have hc3 := hr.out.1.c0
      have hc4 := hr.out.1.c1
      have d0 := (R2.out.ext hr.out.2.2).c0
      have f0 := (R2.out.ext hr.out.2.2).f 0
      have d1 := ((R2.out.ext hr.out.2.2).set0 (m := (k : Int))).c1
      have f1 := ((R2.out.ext hr.out.2.2).set0 (m := (k : Int))).f 1
      have Fin := Lib.hid (ret_at (n := (k : Int)) (R2.out.ext hr.out.2.2) hr.out.2.1 (by rw [HsW.out]; omega) (Hx.out.tr hr.out.2.2) (by omega))
      have q0 := Fin.out.1.c0
      have q1 := Fin.out.1.c1
      go_wp2
      exact bodyPost_ret (v := .agg #[.int .i64 k, .slice Au nu cu]) (by simp [results, Try.results67, q0, q1, go_sem]) rfl ⟨_, rfl, Fin.out.2.1.base (by rw [HsW.out]; omega), Fin.out.2.2⟩
set_option maxRecDepth 100000 in
set_option maxHeartbeats 2000000 in
theorem later_t (n : Nat) (l m : List Int) (v u : Value) (w : World) (hv : Ints w v l) (hu : Ints w u m) (hn : 1 ≤ n ∧ n ≤ 24) (hl : ∀ x ∈ l, 0 ≤ x ∧ x < n) (hm : ∀ x ∈ m, 0 ≤ x ∧ x < n) (hll : l.length ≤ n) (hml : m.length ≤ n) (hgt : cod n l < cod n m) :
    Calls Try.prog 96 #[.agg #[.int .i64 n, v], .agg #[.int .i64 n, u]] w (fun e w' => e = .returned (.agg #[.int .i64 n, u]) ∧ Ext w w') := by
  obtain ⟨A, c, hve, _, _⟩ := hv.form0
  obtain ⟨A', c', hue, _, _⟩ := hu.form0
  obtain ⟨k, hk⟩ : ∃ k, k = l.length := ⟨_, rfl⟩
  obtain ⟨k', hk'⟩ : ∃ k', k' = m.length := ⟨_, rfl⟩
  have Hll := Lib.hid hll
  have Hml := Lib.hid hml
  rw [← hk] at hve
  rw [← hk'] at hue
  subst hve
  subst hue
  have hx := two_boxes w (.cells #[.int .i64 (n : Int), .slice A k c] 29) (.cells #[.int .i64 (n : Int), .slice A' k' c'] 29)
  have hx2 := one_box ((w.alloc (.cells #[.int .i64 (n : Int), .slice A k c] 29)).alloc (.cells #[.int .i64 (n : Int), .slice A' k' c'] 29)) (.cells #[.int .i64 0, .slice none 0 0] 29)
  have ha := ((RVar.new (T := 29) w (n : Int) (.slice A k c)).ext (one_box _ (.cells #[.int .i64 (n : Int), .slice A' k' c'] 29))).ext hx2
  have hb : RVar ((w.alloc (.cells #[.int .i64 (n : Int), .slice A k c] 29)).alloc (.cells #[.int .i64 (n : Int), .slice A' k' c'] 29)) (w.heap.size + 1) (n : Int) (.slice A' k' c') := by
    simpa only [World.size_alloc] using RVar.new (T := 29) (w.alloc (.cells #[.int .i64 (n : Int), .slice A k c] 29)) (n : Int) (.slice A' k' c')
  have hz : RVar (((w.alloc (.cells #[.int .i64 (n : Int), .slice A k c] 29)).alloc (.cells #[.int .i64 (n : Int), .slice A' k' c'] 29)).alloc (.cells #[.int .i64 0, .slice none 0 0] 29)) (w.heap.size + 1 + 1) 0 (.slice none 0 0) := by
    simpa only [World.size_alloc] using RVar.new (T := 29) ((w.alloc (.cells #[.int .i64 (n : Int), .slice A k c] 29)).alloc (.cells #[.int .i64 (n : Int), .slice A' k' c'] 29)) 0 (.slice none 0 0)
  have Ra := Lib.hid ha
  have Rb := Lib.hid (hb.ext hx2)
  have Rz := Lib.hid hz
  have Hv := Lib.hid ((hv.ext hx).ext hx2)
  have Hu := Lib.hid ((hu.ext hx).ext hx2)
  have Hx := Lib.hid (Ext.tr hx hx2)
  have Hl := Lib.hid hl
  have Hm := Lib.hid hm
  have Hn := Lib.hid hn
  have a0 := Ra.out.c0
  have a1 := Ra.out.c1
  have b0 := Rb.out.c0
  have b1 := Rb.out.c1
  have hgti : decide (((cod n l : Nat) : Int) < ((cod n m : Nat) : Int)) = true := by simpa using hgt
  clear hv hu hx hx2 hk hk' ha hb hz hl hm hll hml
  go_enter Try.func96, Try.ntmps96
  go_wp2
  have tok : True := trivial
  go_region_law (first
    | (go_simp; go_at_call 73; clear tok; refine (code_c n m _ _ (Ints.drew Hu.out) Hn.out Hm.out Hml.out).mono ?_; rintro e w1 ⟨rfl, hx1'⟩; have hx1 := ext_ofD hx1'; clear hx1'; have a2 := (Ra.out.ext hx1).c0; have a3 := (Ra.out.ext hx1).c1; have b2 := (Rb.out.ext hx1).c0; have b3 := (Rb.out.ext hx1).c1)
    | (go_simp; go_at_call 73; refine (code_c n l _ _ (Hv.out.ext hx1) Hn.out Hl.out Hll.out).mono ?_; rintro e w2 ⟨rfl, hx2⟩; have X2 := Lib.hid (hx1.tr hx2); have a4 := (Ra.out.ext X2.out).c0; have a5 := (Ra.out.ext X2.out).c1; have b4 := (Rb.out.ext X2.out).c0; have b5 := (Rb.out.ext X2.out).c1; have d0 := (Rz.out.ext X2.out).c0; have f0 := (Rz.out.ext X2.out).f 0; have d1 := ((Rz.out.ext X2.out).set0 (m := (n : Int))).c1; have f1 := ((Rz.out.ext X2.out).set0 (m := (n : Int))).f 1))
  all_goals
    go_wp2
    have Fin := Lib.hid (show RVar _ _ _ _ from ((Rz.out.ext X2.out).set0 (m := (n : Int))).set1 (u := (.slice A' k' c')))
    have q0 := Fin.out.c0
    have q1 := Fin.out.c1
    exact bodyPost_ret (v := .agg #[.int .i64 n, (.slice A' k' c')]) (by simp [results, Try.results96, q0, q1, go_sem]) rfl ⟨rfl, ((Hx.out.tr X2.out).setAtQ _ 0 _ (by omega)).setAtQ _ 1 _ (by omega)⟩
set_option maxRecDepth 100000 in
set_option maxHeartbeats 2000000 in
theorem later_f (n : Nat) (l m : List Int) (v u : Value) (w : World) (hv : Ints w v l) (hu : Ints w u m) (hn : 1 ≤ n ∧ n ≤ 24) (hl : ∀ x ∈ l, 0 ≤ x ∧ x < n) (hm : ∀ x ∈ m, 0 ≤ x ∧ x < n) (hll : l.length ≤ n) (hml : m.length ≤ n) (hgt : ¬ cod n l < cod n m) :
    Calls Try.prog 96 #[.agg #[.int .i64 n, v], .agg #[.int .i64 n, u]] w (fun e w' => e = .returned (.agg #[.int .i64 n, v]) ∧ Ext w w') := by
  obtain ⟨A, c, hve, _, _⟩ := hv.form0
  obtain ⟨A', c', hue, _, _⟩ := hu.form0
  obtain ⟨k, hk⟩ : ∃ k, k = l.length := ⟨_, rfl⟩
  obtain ⟨k', hk'⟩ : ∃ k', k' = m.length := ⟨_, rfl⟩
  have Hll := Lib.hid hll
  have Hml := Lib.hid hml
  rw [← hk] at hve
  rw [← hk'] at hue
  subst hve
  subst hue
  have hx := two_boxes w (.cells #[.int .i64 (n : Int), .slice A k c] 29) (.cells #[.int .i64 (n : Int), .slice A' k' c'] 29)
  have hx2 := one_box ((w.alloc (.cells #[.int .i64 (n : Int), .slice A k c] 29)).alloc (.cells #[.int .i64 (n : Int), .slice A' k' c'] 29)) (.cells #[.int .i64 0, .slice none 0 0] 29)
  have ha := ((RVar.new (T := 29) w (n : Int) (.slice A k c)).ext (one_box _ (.cells #[.int .i64 (n : Int), .slice A' k' c'] 29))).ext hx2
  have hb : RVar ((w.alloc (.cells #[.int .i64 (n : Int), .slice A k c] 29)).alloc (.cells #[.int .i64 (n : Int), .slice A' k' c'] 29)) (w.heap.size + 1) (n : Int) (.slice A' k' c') := by
    simpa only [World.size_alloc] using RVar.new (T := 29) (w.alloc (.cells #[.int .i64 (n : Int), .slice A k c] 29)) (n : Int) (.slice A' k' c')
  have hz : RVar (((w.alloc (.cells #[.int .i64 (n : Int), .slice A k c] 29)).alloc (.cells #[.int .i64 (n : Int), .slice A' k' c'] 29)).alloc (.cells #[.int .i64 0, .slice none 0 0] 29)) (w.heap.size + 1 + 1) 0 (.slice none 0 0) := by
    simpa only [World.size_alloc] using RVar.new (T := 29) ((w.alloc (.cells #[.int .i64 (n : Int), .slice A k c] 29)).alloc (.cells #[.int .i64 (n : Int), .slice A' k' c'] 29)) 0 (.slice none 0 0)
  have Ra := Lib.hid ha
  have Rb := Lib.hid (hb.ext hx2)
  have Rz := Lib.hid hz
  have Hv := Lib.hid ((hv.ext hx).ext hx2)
  have Hu := Lib.hid ((hu.ext hx).ext hx2)
  have Hx := Lib.hid (Ext.tr hx hx2)
  have Hl := Lib.hid hl
  have Hm := Lib.hid hm
  have Hn := Lib.hid hn
  have a0 := Ra.out.c0
  have a1 := Ra.out.c1
  have b0 := Rb.out.c0
  have b1 := Rb.out.c1
  have hgti : decide (((cod n l : Nat) : Int) < ((cod n m : Nat) : Int)) = false := by simpa using Nat.le_of_not_lt hgt
  clear hv hu hx hx2 hk hk' ha hb hz hl hm hll hml
  go_enter Try.func96, Try.ntmps96
  go_wp2
  have tok : True := trivial
  go_region_law (first
    | (go_simp; go_at_call 73; clear tok; refine (code_c n m _ _ (Ints.drew Hu.out) Hn.out Hm.out Hml.out).mono ?_; rintro e w1 ⟨rfl, hx1'⟩; have hx1 := ext_ofD hx1'; clear hx1'; have a2 := (Ra.out.ext hx1).c0; have a3 := (Ra.out.ext hx1).c1; have b2 := (Rb.out.ext hx1).c0; have b3 := (Rb.out.ext hx1).c1)
    | (go_simp; go_at_call 73; refine (code_c n l _ _ (Hv.out.ext hx1) Hn.out Hl.out Hll.out).mono ?_; rintro e w2 ⟨rfl, hx2⟩; have X2 := Lib.hid (hx1.tr hx2); have a4 := (Ra.out.ext X2.out).c0; have a5 := (Ra.out.ext X2.out).c1; have b4 := (Rb.out.ext X2.out).c0; have b5 := (Rb.out.ext X2.out).c1; have d0 := (Rz.out.ext X2.out).c0; have f0 := (Rz.out.ext X2.out).f 0; have d1 := ((Rz.out.ext X2.out).set0 (m := (n : Int))).c1; have f1 := ((Rz.out.ext X2.out).set0 (m := (n : Int))).f 1))
  all_goals
    go_wp2
    have Fin := Lib.hid (show RVar _ _ _ _ from ((Rz.out.ext X2.out).set0 (m := (n : Int))).set1 (u := (.slice A k c)))
    have q0 := Fin.out.c0
    have q1 := Fin.out.c1
    exact bodyPost_ret (v := .agg #[.int .i64 n, (.slice A k c)]) (by simp [results, Try.results96, q0, q1, go_sem]) rfl ⟨rfl, ((Hx.out.tr X2.out).setAtQ _ 0 _ (by omega)).setAtQ _ 1 _ (by omega)⟩
end Go.Proofs.Ytaiigheknmndnaa
