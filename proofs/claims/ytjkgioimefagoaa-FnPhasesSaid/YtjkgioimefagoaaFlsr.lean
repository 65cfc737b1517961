/- Contract: leastRotation (the greatest rotation, by its code). -/
import Derived.Test.YtjkgioimefagoaaFlst
namespace Go.Proofs.Ytjkgioimefagoaa
open Go.RowKit
theorem own_far {w : World} {B c k : Nat} {v u : Value} {l : List Int} (h : Own w B v l) (hne : v.ownBlock ≠ some c) : Own (w.setCell ⟨c, k, none⟩ u) B v l := ⟨ownsRow_setCell_other h.1 hne u, h.2⟩
theorem ret_far {w wr : World} {B b : Nat} {n m : Int} {u v : Value} {l : List Int} (h : RVar wr b m u) (ho : Own wr B v l) (hb : v.ownBlock ≠ some b) (hx : Ext w wr) (hwb : w.heap.size ≤ b) :
    RVar ((wr.setCell ⟨b, 0, none⟩ (.int .i64 n)).setCell ⟨b, 1, none⟩ v) b n v ∧ Own ((wr.setCell ⟨b, 0, none⟩ (.int .i64 n)).setCell ⟨b, 1, none⟩ v) B v l ∧ Ext w ((wr.setCell ⟨b, 0, none⟩ (.int .i64 n)).setCell ⟨b, 1, none⟩ v) :=
  ⟨h.set0.set1, own_far (own_far ho hb) hb, (hx.setAtQ b 0 _ hwb).setAtQ b 1 _ hwb⟩
set_option maxRecDepth 100000 in
set_option maxHeartbeats 2000000 in
theorem leastRotation_c (n : Nat) (l : List Int) (v : Value) (w : World) (hv : Ints w v l) (hn : 1 ≤ n ∧ n ≤ 24) (hl : ∀ x ∈ l, 0 ≤ x ∧ x < n) (hlen : l.length ≤ n) : Calls Try.prog 32 #[.agg #[.int .i64 n, v]] w (RR n (mxUp n l n) w) := by
  obtain ⟨A, c, hve, _, _⟩ := hv.form0
  obtain ⟨m, hm⟩ : ∃ m, m = l.length := ⟨_, rfl⟩
  have Hlen := Lib.hid hlen
  rw [← hm] at hve
  subst hve
  obtain ⟨W, hW⟩ : ∃ W, W = (w.alloc (.cells #[.int .i64 (n : Int), .slice A m c] 25)).alloc (.cells #[.int .i64 0, .slice none 0 0] 25) := ⟨_, rfl⟩
  have hx : Ext w W := by rw [hW]; exact two_boxes w _ _
  have hsW : W.heap.size = w.heap.size + 2 := by rw [hW]; simp
  have h1 : RVar W w.heap.size (n : Int) (.slice A m c) := by rw [hW]; exact (RVar.new (T := 25) w (n : Int) (.slice A m c)).ext (one_box _ _)
  have h2 : RVar W (w.heap.size + 1) 0 (.slice none 0 0) := by
    rw [hW]
    simpa only [World.size_alloc] using RVar.new (T := 25) (w.alloc (.cells #[.int .i64 (n : Int), .slice A m c] 25)) 0 (.slice none 0 0)
  have Hv := Lib.hid (hv.ext hx)
  have Hx := Lib.hid hx
  have R1 := Lib.hid h1
  have R2 := Lib.hid h2
  have Hl := Lib.hid hl
  have HsW := Lib.hid hsW
  have hc1 := h1.c0
  have hc2 := h1.c1
  rw [hW] at hc1 hc2
  have Hn := Lib.hid hn
  obtain ⟨hn1, hn24⟩ := hn
  have hn1i : (1 : Int) ≤ (n : Int) := by omega
  clear hv hx hm h1 h2 hl hlen hsW
  have HW := Lib.hid hW
  go_enter Try.func32, Try.ntmps32
  go_wp2_with (first | (go_at_call 43; refine (rotated_c n l 0 _ _ (show Ints _ _ _ by rw [← HW.out]; exact Hv.out) Hn.out Hl.out Hlen.out (by omega)).mono ?_; rintro e w3 ⟨v3, rfl, how3, hxw3⟩; rw [← HW.out] at how3 hxw3; obtain ⟨A3, n3, c3, rfl⟩ := how3.form; have hc3 := ((R1.out.ext hxw3).ext (one_box w3 (.cells #[.int .i64 (n : Int), .slice A3 n3 c3] 25))).c0; clear hc1 hc2))
  go_loopw [9] (fun i wr => ∃ (k : Nat) (u : Value), k ≤ n ∧ i = .int .i64 k ∧ Hid (RVar wr w3.heap.size n u ∧ Own wr W.heap.size u (mxUp n l k) ∧ Ext W wr ∧ u.ownBlock ≠ some w3.heap.size)) (fun i _ => n - (intOf i).toNat)
  case atStart => exact ⟨0, _, Nat.zero_le _, rfl, RVar.new w3 _ _, how3.ext (one_box w3 _), hxw3.tr (one_box w3 _), fun e => by have := (how3.lt _ e).2; omega⟩
  case round =>
    clear hc3
    obtain ⟨k, u, hkn, rfl, hr⟩ := hrel
    obtain ⟨Au, nu, cu, rfl⟩ := hr.out.2.1.form
    have hc1 := (R1.out.ext hr.out.2.2.1).c0
    have hc2 := (R1.out.ext hr.out.2.2.1).c1
    by_cases hkl : k < n
    · have p0 := hr.out.1.c0
      have p1 := hr.out.1.c1
      by_cases hgt : cod n (mxUp n l k) < cod n (rotL n l k)
      · have Hgt := Lib.hid hgt
        have Hk := Lib.hid (mxUp_t hgt)
        clear hgt
        go_wp2_with fail
        go_region_law (first
          | (go_simp; go_at_call 43; refine (rotated_c n l (k : Int) _ _ (Ints.drew (Hv.out.ext hr.out.2.2.1)) Hn.out Hl.out Hlen.out (by omega)).mono ?_; rintro e w4 ⟨v4, rfl, ho4, hx4'⟩; have hx4 := ext_ofD hx4'; clear hx4'; obtain ⟨A4, n4, c4, rfl⟩ := ho4.form; have p2 := (hr.out.1.ext hx4).c0; have p3 := (hr.out.1.ext hx4).c1; have p4 := (R1.out.ext (hr.out.2.2.1.tr hx4)).c0; have p5 := (R1.out.ext (hr.out.2.2.1.tr hx4)).c1)
          | (go_simp; go_at_call 47; refine (later_t n (mxUp n l k) (rotL n l k) _ _ _ (hr.out.2.1.ext hx4).ints ho4.ints Hn.out (mxUp_mem n l k) (fun x hx => rotL_mem hx) (mxUp_len n l k) (rotL_len n l k) Hgt.out).mono ?_; rintro e w5 ⟨rfl, hx5⟩; have X5 : Hid (Ext wr w5) := hx4.tr hx5; have d0 := (hr.out.1.ext X5.out).c0; have f0 := (hr.out.1.ext X5.out).f 0; have d1 := ((hr.out.1.ext X5.out).set0 (m := (n : Int))).c1; have f1 := ((hr.out.1.ext X5.out).set0 (m := (n : Int))).f 1))
        all_goals
          have hne : (Value.slice A4 n4 c4).ownBlock ≠ some w3.heap.size := fun e => by
            have h1 : wr.heap.size ≤ w3.heap.size := (ho4.lt _ e).1
            have := hr.out.1.lt
            omega
          have Fin := Lib.hid (ret_far (w := W) (n := (n : Int)) (hr.out.1.ext X5.out) (ho4.ext hx5) hne (hr.out.2.2.1.tr X5.out) hxw3.size)
          have Hne := Lib.hid hne
          clear hne
          go_wp2
          go_roundw
          case rel => exact ⟨k + 1, _, by omega, by go_num, by unfold Hid; rw [Hk.out]; exact ⟨Fin.out.1, Fin.out.2.1.base hr.out.2.2.1.size, Fin.out.2.2, Hne.out⟩⟩
          case measure => simp [intOf]; omega
      · have Hgt := Lib.hid hgt
        have Hk := Lib.hid (mxUp_f hgt)
        clear hgt
        go_wp2_with fail
        go_region_law (first
          | (go_simp; go_at_call 43; refine (rotated_c n l (k : Int) _ _ (Ints.drew (Hv.out.ext hr.out.2.2.1)) Hn.out Hl.out Hlen.out (by omega)).mono ?_; rintro e w4 ⟨v4, rfl, ho4, hx4'⟩; have hx4 := ext_ofD hx4'; clear hx4'; obtain ⟨A4, n4, c4, rfl⟩ := ho4.form; have p2 := (hr.out.1.ext hx4).c0; have p3 := (hr.out.1.ext hx4).c1; have p4 := (R1.out.ext (hr.out.2.2.1.tr hx4)).c0; have p5 := (R1.out.ext (hr.out.2.2.1.tr hx4)).c1)
          | (go_simp; go_at_call 47; refine (later_f n (mxUp n l k) (rotL n l k) _ _ _ (hr.out.2.1.ext hx4).ints ho4.ints Hn.out (mxUp_mem n l k) (fun x hx => rotL_mem hx) (mxUp_len n l k) (rotL_len n l k) Hgt.out).mono ?_; rintro e w5 ⟨rfl, hx5⟩; have X5 : Hid (Ext wr w5) := hx4.tr hx5; have d0 := (hr.out.1.ext X5.out).c0; have f0 := (hr.out.1.ext X5.out).f 0; have d1 := ((hr.out.1.ext X5.out).set0 (m := (n : Int))).c1; have f1 := ((hr.out.1.ext X5.out).set0 (m := (n : Int))).f 1))
        all_goals
          have Fin := Lib.hid (ret_far (w := W) (n := (n : Int)) (hr.out.1.ext X5.out) (hr.out.2.1.ext X5.out) hr.out.2.2.2 (hr.out.2.2.1.tr X5.out) hxw3.size)
          go_wp2
          go_roundw
          case rel => exact ⟨k + 1, _, by omega, by go_num, by unfold Hid; rw [Hk.out]; exact ⟨Fin.out.1, Fin.out.2.1, Fin.out.2.2, hr.out.2.2.2⟩⟩
          case measure => simp [intOf]; omega
    · obtain rfl : k = n := by omega
      have hc3 := hr.out.1.c0
      have hc4 := hr.out.1.c1
      have d0 := (R2.out.ext hr.out.2.2.1).c0
      have f0 := (R2.out.ext hr.out.2.2.1).f 0
      have d1 := ((R2.out.ext hr.out.2.2.1).set0 (m := (k : Int))).c1
      have f1 := ((R2.out.ext hr.out.2.2.1).set0 (m := (k : Int))).f 1
      have Fin := Lib.hid (ret_at (n := (k : Int)) (R2.out.ext hr.out.2.2.1) hr.out.2.1 (by rw [HsW.out]; omega) (Hx.out.tr hr.out.2.2.1) (by omega))
      have q0 := Fin.out.1.c0
      have q1 := Fin.out.1.c1
      go_wp2
      exact bodyPost_ret (v := .agg #[.int .i64 k, .slice Au nu cu]) (by simp [results, Try.results32, q0, q1, go_sem]) rfl ⟨_, rfl, Fin.out.2.1.base (by rw [HsW.out]; omega), Fin.out.2.2⟩
end Go.Proofs.Ytjkgioimefagoaa
