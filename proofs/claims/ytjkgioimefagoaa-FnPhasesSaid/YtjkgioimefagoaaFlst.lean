/- Contract: l04Least (the greatest rotation). -/
import Derived.Test.YtjkgioimefagoaaFcod
namespace Go.Proofs.Ytjkgioimefagoaa
open Go.RowKit
theorem Ext.setAtQ {w a : World} (h : Ext w a) (b k : Nat) (x : Value) (hb : w.heap.size ≤ b) : Ext w (a.setCell ⟨b, k, none⟩ x) := Below.setCell h hb x
theorem ret_at {w wr : World} {B b : Nat} {n m : Int} {u v : Value} {l : List Int} (h : RVar wr b m u) (ho : Own wr B v l) (hb : b < B) (hx : Ext w wr) (hwb : w.heap.size ≤ b) :
    RVar ((wr.setCell ⟨b, 0, none⟩ (.int .i64 n)).setCell ⟨b, 1, none⟩ v) b n v ∧ Own ((wr.setCell ⟨b, 0, none⟩ (.int .i64 n)).setCell ⟨b, 1, none⟩ v) B v l ∧ Ext w ((wr.setCell ⟨b, 0, none⟩ (.int .i64 n)).setCell ⟨b, 1, none⟩ v) :=
  ⟨h.set0.set1, (ho.other hb).other hb, (hx.setAtQ b 0 _ hwb).setAtQ b 1 _ hwb⟩
set_option maxRecDepth 100000 in
set_option maxHeartbeats 2000000 in
theorem later_t (n : Nat) (l m : List Int) (v u : Value) (w : World) (hv : Ints w v l) (hu : Ints w u m) (hn : 1 ≤ n ∧ n ≤ 24) (hl : ∀ x ∈ l, 0 ≤ x ∧ x < n) (hm : ∀ x ∈ m, 0 ≤ x ∧ x < n) (hll : l.length ≤ n) (hml : m.length ≤ n) (hgt : cod n l < cod n m) :
    Calls Try.prog 47 #[.agg #[.int .i64 n, v], .agg #[.int .i64 n, u]] w (fun e w' => e = .returned (.agg #[.int .i64 n, u]) ∧ Ext w w') := by
  obtain ⟨A, c, hve, _, _⟩ := hv.form0
  obtain ⟨A', c', hue, _, _⟩ := hu.form0
  obtain ⟨k, hk⟩ : ∃ k, k = l.length := ⟨_, rfl⟩
  obtain ⟨k', hk'⟩ : ∃ k', k' = m.length := ⟨_, rfl⟩
  have Hll := Lib.hid hll
  have Hml := Lib.hid hml
  rw [← hk] at hve
  rw [← hk'] at hue
  subst hve
  subst hue
  have hx := two_boxes w (.cells #[.int .i64 (n : Int), .slice A k c] 25) (.cells #[.int .i64 (n : Int), .slice A' k' c'] 25)
  have hx2 := one_box ((w.alloc (.cells #[.int .i64 (n : Int), .slice A k c] 25)).alloc (.cells #[.int .i64 (n : Int), .slice A' k' c'] 25)) (.cells #[.int .i64 0, .slice none 0 0] 25)
  have ha := ((RVar.new (T := 25) w (n : Int) (.slice A k c)).ext (one_box _ (.cells #[.int .i64 (n : Int), .slice A' k' c'] 25))).ext hx2
  have hb : RVar ((w.alloc (.cells #[.int .i64 (n : Int), .slice A k c] 25)).alloc (.cells #[.int .i64 (n : Int), .slice A' k' c'] 25)) (w.heap.size + 1) (n : Int) (.slice A' k' c') := by
    simpa only [World.size_alloc] using RVar.new (T := 25) (w.alloc (.cells #[.int .i64 (n : Int), .slice A k c] 25)) (n : Int) (.slice A' k' c')
  have hz : RVar (((w.alloc (.cells #[.int .i64 (n : Int), .slice A k c] 25)).alloc (.cells #[.int .i64 (n : Int), .slice A' k' c'] 25)).alloc (.cells #[.int .i64 0, .slice none 0 0] 25)) (w.heap.size + 1 + 1) 0 (.slice none 0 0) := by
    simpa only [World.size_alloc] using RVar.new (T := 25) ((w.alloc (.cells #[.int .i64 (n : Int), .slice A k c] 25)).alloc (.cells #[.int .i64 (n : Int), .slice A' k' c'] 25)) 0 (.slice none 0 0)
  have Ra := Lib.hid ha
  have Rb := Lib.hid (hb.ext hx2)
  have Rz := Lib.hid hz
  have Hv := Lib.hid ((hv.ext hx).ext hx2)
  have Hu := Lib.hid ((hu.ext hx).ext hx2)
  have Hx := Lib.hid (Ext.tr hx hx2)
  have Hl := Lib.hid hl
  have Hm := Lib.hid hm
  have Hn := Lib.hid hn
  have a0 := Ra.out.c0
  have a1 := Ra.out.c1
  have b0 := Rb.out.c0
  have b1 := Rb.out.c1
  have hgti : decide (((cod n l : Nat) : Int) < ((cod n m : Nat) : Int)) = true := by simpa using hgt
  clear hv hu hx hx2 hk hk' ha hb hz hl hm hll hml
  go_enter Try.func47, Try.ntmps47
  go_wp2
  have tok : True := trivial
  go_region_law (first
    | (go_simp; go_at_call 33; clear tok; refine (code_c n m _ _ (Ints.drew Hu.out) Hn.out Hm.out Hml.out).mono ?_; rintro e w1 ⟨rfl, hx1'⟩; have hx1 := ext_ofD hx1'; clear hx1'; have a2 := (Ra.out.ext hx1).c0; have a3 := (Ra.out.ext hx1).c1; have b2 := (Rb.out.ext hx1).c0; have b3 := (Rb.out.ext hx1).c1)
    | (go_simp; go_at_call 33; refine (code_c n l _ _ (Hv.out.ext hx1) Hn.out Hl.out Hll.out).mono ?_; rintro e w2 ⟨rfl, hx2⟩; have X2 := Lib.hid (hx1.tr hx2); have a4 := (Ra.out.ext X2.out).c0; have a5 := (Ra.out.ext X2.out).c1; have b4 := (Rb.out.ext X2.out).c0; have b5 := (Rb.out.ext X2.out).c1; have d0 := (Rz.out.ext X2.out).c0; have f0 := (Rz.out.ext X2.out).f 0; have d1 := ((Rz.out.ext X2.out).set0 (m := (n : Int))).c1; have f1 := ((Rz.out.ext X2.out).set0 (m := (n : Int))).f 1))
  all_goals
    go_wp2
    have Fin := Lib.hid (show RVar _ _ _ _ from ((Rz.out.ext X2.out).set0 (m := (n : Int))).set1 (u := (.slice A' k' c')))
    have q0 := Fin.out.c0
    have q1 := Fin.out.c1
    exact bodyPost_ret (v := .agg #[.int .i64 n, (.slice A' k' c')]) (by simp [results, Try.results47, q0, q1, go_sem]) rfl ⟨rfl, ((Hx.out.tr X2.out).setAtQ _ 0 _ (by omega)).setAtQ _ 1 _ (by omega)⟩
set_option maxRecDepth 100000 in
set_option maxHeartbeats 2000000 in
theorem later_f (n : Nat) (l m : List Int) (v u : Value) (w : World) (hv : Ints w v l) (hu : Ints w u m) (hn : 1 ≤ n ∧ n ≤ 24) (hl : ∀ x ∈ l, 0 ≤ x ∧ x < n) (hm : ∀ x ∈ m, 0 ≤ x ∧ x < n) (hll : l.length ≤ n) (hml : m.length ≤ n) (hgt : ¬ cod n l < cod n m) :
    Calls Try.prog 47 #[.agg #[.int .i64 n, v], .agg #[.int .i64 n, u]] w (fun e w' => e = .returned (.agg #[.int .i64 n, v]) ∧ Ext w w') := by
  obtain ⟨A, c, hve, _, _⟩ := hv.form0
  obtain ⟨A', c', hue, _, _⟩ := hu.form0
  obtain ⟨k, hk⟩ : ∃ k, k = l.length := ⟨_, rfl⟩
  obtain ⟨k', hk'⟩ : ∃ k', k' = m.length := ⟨_, rfl⟩
  have Hll := Lib.hid hll
  have Hml := Lib.hid hml
  rw [← hk] at hve
  rw [← hk'] at hue
  subst hve
  subst hue
  have hx := two_boxes w (.cells #[.int .i64 (n : Int), .slice A k c] 25) (.cells #[.int .i64 (n : Int), .slice A' k' c'] 25)
  have hx2 := one_box ((w.alloc (.cells #[.int .i64 (n : Int), .slice A k c] 25)).alloc (.cells #[.int .i64 (n : Int), .slice A' k' c'] 25)) (.cells #[.int .i64 0, .slice none 0 0] 25)
  have ha := ((RVar.new (T := 25) w (n : Int) (.slice A k c)).ext (one_box _ (.cells #[.int .i64 (n : Int), .slice A' k' c'] 25))).ext hx2
  have hb : RVar ((w.alloc (.cells #[.int .i64 (n : Int), .slice A k c] 25)).alloc (.cells #[.int .i64 (n : Int), .slice A' k' c'] 25)) (w.heap.size + 1) (n : Int) (.slice A' k' c') := by
    simpa only [World.size_alloc] using RVar.new (T := 25) (w.alloc (.cells #[.int .i64 (n : Int), .slice A k c] 25)) (n : Int) (.slice A' k' c')
  have hz : RVar (((w.alloc (.cells #[.int .i64 (n : Int), .slice A k c] 25)).alloc (.cells #[.int .i64 (n : Int), .slice A' k' c'] 25)).alloc (.cells #[.int .i64 0, .slice none 0 0] 25)) (w.heap.size + 1 + 1) 0 (.slice none 0 0) := by
    simpa only [World.size_alloc] using RVar.new (T := 25) ((w.alloc (.cells #[.int .i64 (n : Int), .slice A k c] 25)).alloc (.cells #[.int .i64 (n : Int), .slice A' k' c'] 25)) 0 (.slice none 0 0)
  have Ra := Lib.hid ha
  have Rb := Lib.hid (hb.ext hx2)
  have Rz := Lib.hid hz
  have Hv := Lib.hid ((hv.ext hx).ext hx2)
  have Hu := Lib.hid ((hu.ext hx).ext hx2)
  have Hx := Lib.hid (Ext.tr hx hx2)
  have Hl := Lib.hid hl
  have Hm := Lib.hid hm
  have Hn := Lib.hid hn
  have a0 := Ra.out.c0
  have a1 := Ra.out.c1
  have b0 := Rb.out.c0
  have b1 := Rb.out.c1
  have hgti : decide (((cod n l : Nat) : Int) < ((cod n m : Nat) : Int)) = false := by simpa using Nat.le_of_not_lt hgt
  clear hv hu hx hx2 hk hk' ha hb hz hl hm hll hml
  go_enter Try.func47, Try.ntmps47
  go_wp2
  have tok : True := trivial
  go_region_law (first
    | (go_simp; go_at_call 33; clear tok; refine (code_c n m _ _ (Ints.drew Hu.out) Hn.out Hm.out Hml.out).mono ?_; rintro e w1 ⟨rfl, hx1'⟩; have hx1 := ext_ofD hx1'; clear hx1'; have a2 := (Ra.out.ext hx1).c0; have a3 := (Ra.out.ext hx1).c1; have b2 := (Rb.out.ext hx1).c0; have b3 := (Rb.out.ext hx1).c1)
    | (go_simp; go_at_call 33; refine (code_c n l _ _ (Hv.out.ext hx1) Hn.out Hl.out Hll.out).mono ?_; rintro e w2 ⟨rfl, hx2⟩; have X2 := Lib.hid (hx1.tr hx2); have a4 := (Ra.out.ext X2.out).c0; have a5 := (Ra.out.ext X2.out).c1; have b4 := (Rb.out.ext X2.out).c0; have b5 := (Rb.out.ext X2.out).c1; have d0 := (Rz.out.ext X2.out).c0; have f0 := (Rz.out.ext X2.out).f 0; have d1 := ((Rz.out.ext X2.out).set0 (m := (n : Int))).c1; have f1 := ((Rz.out.ext X2.out).set0 (m := (n : Int))).f 1))
  all_goals
    go_wp2
    have Fin := Lib.hid (show RVar _ _ _ _ from ((Rz.out.ext X2.out).set0 (m := (n : Int))).set1 (u := (.slice A k c)))
    have q0 := Fin.out.c0
    have q1 := Fin.out.c1
    exact bodyPost_ret (v := .agg #[.int .i64 n, (.slice A k c)]) (by simp [results, Try.results47, q0, q1, go_sem]) rfl ⟨rfl, ((Hx.out.tr X2.out).setAtQ _ 0 _ (by omega)).setAtQ _ 1 _ (by omega)⟩
end Go.Proofs.Ytjkgioimefagoaa
