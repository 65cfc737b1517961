/- Contracts: CanonOk, ExchangeCanon on both sides. -/
import Derived.Test.YtjecdmlojgmbeaaGreatDoorCan
import Derived.Test.YtjecdmlojgmbeaaGreatDoorFjoin
import Derived.Test.YtjecdmlojgmbeaaGreatDoorFmap
namespace Go.Proofs.YtjecdmlojgmbeaaGreatDoor
open Go.RowKit
def canOk (n m : Int) (l r : List Int) : Prop := sameOk n m l r ∧ l ≠ [] ∧ r ≠ []
instance (n m : Int) (l r : List Int) : Decidable (canOk n m l r) := by unfold canOk; infer_instance
def canB (n m : Int) (l r : List Int) : Bool := decide (canOk n m l r)
theorem canB_t {n m : Int} {l r : List Int} (h : canOk n m l r) : canB n m l r = true := by unfold canB; simpa using h
theorem canB_f {n m : Int} {l r : List Int} (h : ¬ canOk n m l r) : canB n m l r = false := by unfold canB; simpa using h
set_option maxRecDepth 100000 in
set_option maxHeartbeats 1000000 in
theorem canonOk_c (n m : Int) (l r : List Int) (v u : Value) (w : World) (hv : Ints w v l) (hu : Ints w u r) : Calls Tryz.prog 9 #[.agg #[.int .i64 n, v, .int .i64 m, u]] w (RB (canOk n m l r) w) := by
  obtain ⟨A, c, hve, _, _⟩ := hv.form0
  obtain ⟨A', c', hue, _, _⟩ := hu.form0
  obtain ⟨k, hk⟩ : ∃ k, k = l.length := ⟨_, rfl⟩
  obtain ⟨k', hk'⟩ : ∃ k', k' = r.length := ⟨_, rfl⟩
  rw [← hk] at hve
  rw [← hk'] at hue
  subst hve
  subst hue
  have hx := one_box w (.cells #[.int .i64 n, .slice A k c, .int .i64 m, .slice A' k' c'] 29)
  have ha := CVar.new (T := 29) w n (.slice A k c) m (.slice A' k' c')
  have Hk := Lib.hid hk
  have Hk' := Lib.hid hk'
  have Hv := Lib.hid (hv.ext hx)
  have Hu := Lib.hid (hu.ext hx)
  have Hx := Lib.hid hx
  have Ca := Lib.hid ha
  clear hv hu hx hk hk' ha
  have hc0 := Ca.out.c0
  have hc1 := Ca.out.c1
  have hc2 := Ca.out.c2
  have hc3 := Ca.out.c3
  by_cases hs : sameOk n m l r
  · have Hs := Lib.hid hs
    by_cases hl : k = 0
    · have Hf : Hid (¬ canOk n m l r) := fun h => h.2.1 (List.eq_nil_of_length_eq_zero (by rw [← Hk.out]; exact hl))
      clear hs
      subst hl
      go_enter Tryz.func9, Tryz.ntmps9
      go_wp2_with (first | (go_at_call 27; refine (sameSize_c n m l r _ _ _ Hv.out Hu.out).mono ?_; rintro e w2 ⟨b2, rfl, hb2, hx2⟩; (obtain rfl := hb2.2 Hs.out; clear hb2; have hd1 := (Ca.out.ext hx2).c1; have hd3 := (Ca.out.ext hx2).c3)))
      go_ret
      exact RB.f Hf.out (Hx.out.tr hx2)
    · have hk1 : (0 : Int) < (k : Int) := by omega
      by_cases hr : k' = 0
      · have Hf : Hid (¬ canOk n m l r) := fun h => h.2.2 (List.eq_nil_of_length_eq_zero (by rw [← Hk'.out]; exact hr))
        clear hs hl
        subst hr
        go_enter Tryz.func9, Tryz.ntmps9
        go_wp2_with (first | (go_at_call 27; refine (sameSize_c n m l r _ _ _ Hv.out Hu.out).mono ?_; rintro e w2 ⟨b2, rfl, hb2, hx2⟩; (obtain rfl := hb2.2 Hs.out; clear hb2; have hd1 := (Ca.out.ext hx2).c1; have hd3 := (Ca.out.ext hx2).c3)))
        go_ret
        exact RB.f Hf.out (Hx.out.tr hx2)
      · have hk2 : (0 : Int) < (k' : Int) := by omega
        have Ht : Hid (canOk n m l r) := ⟨hs, fun e => hl (by rw [Hk.out, e]; rfl), fun e => hr (by rw [Hk'.out, e]; rfl)⟩
        clear hs hl hr
        go_enter Tryz.func9, Tryz.ntmps9
        go_wp2_with (first | (go_at_call 27; refine (sameSize_c n m l r _ _ _ Hv.out Hu.out).mono ?_; rintro e w2 ⟨b2, rfl, hb2, hx2⟩; (obtain rfl := hb2.2 Hs.out; clear hb2; have hd1 := (Ca.out.ext hx2).c1; have hd3 := (Ca.out.ext hx2).c3)))
        go_ret
        exact ⟨_, rfl, ⟨fun _ => Ht.out, fun _ => by simp; omega⟩, Hx.out.tr hx2⟩
  · have Hs := Lib.hid hs
    have Hf : Hid (¬ canOk n m l r) := fun h => hs h.1
    clear hs
    go_enter Tryz.func9, Tryz.ntmps9
    go_wp2_with (first | (go_at_call 27; refine (sameSize_c n m l r _ _ _ Hv.out Hu.out).mono ?_; rintro e w2 ⟨b2, rfl, hb2, hx2⟩; (obtain rfl := bool_f hb2 Hs.out; clear hb2)))
    go_ret
    exact RB.f Hf.out (Hx.out.tr hx2)
def xchN (n m : Int) (l r : List Int) : Int := if canOk n m l r then n else 0
def xchI (n m : Int) (l r : List Int) : List Int := if canOk n m l r then rotL n.toNat r 0 else []
def xchO (n m : Int) (l r : List Int) : List Int := if canOk n m l r then rotL n.toNat l 0 else []
theorem xch_t {n : Nat} {m : Int} {l r : List Int} (h : canOk n m l r) : canB n m l r = true ∧ xchN n m l r = n ∧ xchI n m l r = rotL n r 0 ∧ xchO n m l r = rotL n l 0 := by
  unfold xchN xchI xchO; rw [if_pos h, if_pos h, if_pos h]; exact ⟨canB_t h, rfl, by simp, by simp⟩
theorem xch_f {n m : Int} {l r : List Int} (h : ¬ canOk n m l r) : canB n m l r = false ∧ xchN n m l r = 0 ∧ xchI n m l r = [] ∧ xchO n m l r = [] := by
  unfold xchN xchI xchO; rw [if_neg h, if_neg h, if_neg h]; exact ⟨canB_f h, rfl, rfl, rfl⟩
theorem xch_len (n m : Int) (l r : List Int) : (xchI n m l r).length ≤ 1000000 ∧ (xchO n m l r).length ≤ 1000000 := by
  by_cases h : canOk n m l r
  · obtain ⟨nn, rfl, _, h24, _⟩ := h.1.1.nat
    rw [(xch_t h).2.2.1, (xch_t h).2.2.2]
    have h1 := rhL_len nn (remL nn (addL 0 r))
    have h2 := rhL_len nn (remL nn (addL 0 l))
    unfold rotL; omega
  · rw [(xch_f h).2.2.1, (xch_f h).2.2.2]; simp
set_option maxRecDepth 100000 in
set_option maxHeartbeats 2000000 in
theorem exchangeCanon_c (n m : Int) (l r : List Int) (v u : Value) (w : World) (hv : Ints w v l) (hu : Ints w u r) : Calls Tryz.prog 5 #[.agg #[.int .i64 n, v, .int .i64 m, u]] w (RCB (xchN n m l r) (xchI n m l r) (xchN n m l r) (xchO n m l r) (canB n m l r) w) := by
  obtain ⟨A, c, hve, _, _⟩ := hv.form0
  obtain ⟨A', c', hue, _, _⟩ := hu.form0
  obtain ⟨k, hk⟩ : ∃ k, k = l.length := ⟨_, rfl⟩
  obtain ⟨k', hk'⟩ : ∃ k', k' = r.length := ⟨_, rfl⟩
  rw [← hk] at hve
  rw [← hk'] at hue
  subst hve
  subst hue
  have hx := one_box w (.cells #[.int .i64 n, .slice A k c, .int .i64 m, .slice A' k' c'] 29)
  have ha := CVar.new (T := 29) w n (.slice A k c) m (.slice A' k' c')
  have Hk := Lib.hid hk
  have Hk' := Lib.hid hk'
  have Hv := Lib.hid (hv.ext hx)
  have Hu := Lib.hid (hu.ext hx)
  have Hx := Lib.hid hx
  have Ca := Lib.hid ha
  clear hv hu hx hk hk' ha
  have hr0 := CVar.new (T := 29) (w.alloc (.cells #[.int .i64 n, .slice A k c, .int .i64 m, .slice A' k' c'] 29)) 0 (.slice none 0 0) 0 (.slice none 0 0)
  have hx2 := one_box (w.alloc (.cells #[.int .i64 n, .slice A k c, .int .i64 m, .slice A' k' c'] 29)) (.cells #[.int .i64 0, .slice none 0 0, .int .i64 0, .slice none 0 0] 29)
  simp only [World.size_alloc] at hr0
  have Hr := Lib.hid hr0
  have Hc := Lib.hid (Ca.out.ext hx2)
  have Hv2 := Lib.hid (Hv.out.ext hx2)
  have Hu2 := Lib.hid (Hu.out.ext hx2)
  have Hx2 := Lib.hid (Hx.out.tr hx2)
  have hc0 := Hc.out.c0
  have hc1 := Hc.out.c1
  have hc2 := Hc.out.c2
  have hc3 := Hc.out.c3
  have hne : w.heap.size ≠ w.heap.size + 1 := by omega
  clear hr0 hx2
  by_cases hs : canOk n m l r
  · have Hs := Lib.hid hs
    obtain ⟨nn, hnn, hn1, hn24, hlen, hl⟩ := hs.1.1.nat
    obtain ⟨nn', hnn', _, _, hlen', hl'⟩ := hs.1.2.1.nat
    have hnm := hs.1.2.2
    subst hnm
    subst hnn
    obtain rfl : nn = nn' := by omega
    have H := Lib.hid (xch_t hs)
    have Hl := Lib.hid hl
    have Hl' := Lib.hid hl'
    have Hlen := Lib.hid hlen
    have Hlen' := Lib.hid hlen'
    clear hs hl hl' hlen hlen'
    go_enter Tryz.func5, Tryz.ntmps5
    go_wp2_with (first | (go_at_call 9; refine (canonOk_c (nn : Int) (nn : Int) l r _ _ _ Hv2.out Hu2.out).mono ?_; rintro e w3 ⟨b3, rfl, hb3, hx3⟩; (obtain rfl := hb3.2 Hs.out; clear hb3)))
    have C3 := Lib.hid (Hc.out.ext hx3)
    have R3 := Lib.hid (Hr.out.ext hx3)
    have hd0 := C3.out.c0
    have hd1 := C3.out.c1
    have hd2 := C3.out.c2
    have hd3 := C3.out.c3
    clear hc0 hc1 hc2 hc3
    have tok1 : True := trivial
    have tok2 : True := trivial
    first
      | (go_region_held3 (fun w' => w'.cell? ⟨w.heap.size, 0, none⟩ = some (.int .i64 nn) ∧ w'.cell? ⟨w.heap.size, 1, none⟩ = some (.slice A k c) ∧ w'.cell? ⟨w.heap.size, 2, none⟩ = some (.int .i64 nn) ∧ w'.cell? ⟨w.heap.size, 3, none⟩ = some (.slice A' k' c'))
          (first
            | with_reducible exact ⟨((((((C3.out.extD hx4).ext hx5).other hne).other hne).other hne).other hne).c0, ((((((C3.out.extD hx4).ext hx5).other hne).other hne).other hne).other hne).c1, ((((((C3.out.extD hx4).ext hx5).other hne).other hne).other hne).other hne).c2, ((((((C3.out.extD hx4).ext hx5).other hne).other hne).other hne).other hne).c3⟩
            | with_reducible exact ⟨((C3.out.extD hx4).ext hx5).c0, ((C3.out.extD hx4).ext hx5).c1, ((C3.out.extD hx4).ext hx5).c2, ((C3.out.extD hx4).ext hx5).c3⟩
            | with_reducible exact ⟨(C3.out.extD hx4).c0, (C3.out.extD hx4).c1, (C3.out.extD hx4).c2, (C3.out.extD hx4).c3⟩
            | (go_keep; done)
            | (refine ⟨?_, ?_, ?_, ?_⟩ <;> (go_keep; done)))
          (first
            | (go_at_call 23; clear tok1; refine (rotated_c nn r 0 _ _ (Hu2.out.ext hx3).drew ⟨hn1, hn24⟩ Hl'.out Hlen'.out (by omega)).mono ?_; rintro e w4 ⟨v4, rfl, ho4, hx4⟩; obtain ⟨A4, n4, c4, rfl⟩ := ho4.form)
            | (go_at_call 23; clear tok2; refine (rotated_c nn l 0 _ _ ((Hv2.out.ext hx3).ext (Ext.ofD hx4)) ⟨hn1, hn24⟩ Hl.out Hlen.out (by omega)).mono ?_; rintro e w5 ⟨v5, rfl, ho5, hx5⟩; obtain ⟨A5, n5, c5, rfl⟩ := ho5.form; have R5 := Lib.hid ((R3.out.extD hx4).ext hx5); have d0 := R5.out.c0; have p0 := R5.out.f 0; have d1 := (R5.out.set0 (k := (nn : Int))).c1; have p1 := (R5.out.set0 (k := (nn : Int))).f 1; have d2 := ((R5.out.set0 (k := (nn : Int))).set1 (x := (.slice A4 n4 c4))).c2; have p2 := ((R5.out.set0 (k := (nn : Int))).set1 (x := (.slice A4 n4 c4))).f 2; have d3 := (((R5.out.set0 (k := (nn : Int))).set1 (x := (.slice A4 n4 c4))).set2 (k := (nn : Int))).c3; have p3 := (((R5.out.set0 (k := (nn : Int))).set1 (x := (.slice A4 n4 c4))).set2 (k := (nn : Int))).f 3)))
      | fail
    all_goals
      have hz3 : w.heap.size + 1 < w3.heap.size := by have := hx3.size; simp only [World.size_alloc] at this; omega
      have hz4 := (Ext.ofD hx4).size
      have Hap : Hid (Apart (.slice A4 n4 c4) (.slice A5 n5 c5)) := Own.apart ho4 ho5
      have Fin := Lib.hid (retc_fin (n := (nn : Int)) (m := (nn : Int)) R5.out ((ho4.ext hx5).base (B' := w3.heap.size) (Nat.le_refl _)) (ho5.base (B' := w3.heap.size) hz4) (by omega) (Hx2.out.tr (hx3.tr ((Ext.ofD hx4).tr hx5))) (by omega))
      have q0 := Fin.out.1.c0
      have q1 := Fin.out.1.c1
      have q2 := Fin.out.1.c2
      have q3 := Fin.out.1.c3
      go_wp2
      exact bodyPost_ret (v := .tuple #[.agg #[.int .i64 nn, .slice A4 n4 c4, .int .i64 nn, .slice A5 n5 c5], .bool true]) (by simp [results, Tryz.results5, q0, q1, q2, q3, go_sem]) rfl ⟨_, _, by rw [H.out.1, H.out.2.1], by rw [H.out.2.2.1]; exact Fin.out.2.1.base (by omega), by rw [H.out.2.2.2]; exact Fin.out.2.2.1.base (by omega), Hap.out, Fin.out.2.2.2⟩
  · have H := Lib.hid (xch_f hs)
    have Hs := Lib.hid hs
    clear hs
    go_enter Tryz.func5, Tryz.ntmps5
    go_wp2_with (first | (go_at_call 9; refine (canonOk_c n m l r _ _ _ Hv2.out Hu2.out).mono ?_; rintro e w3 ⟨b3, rfl, hb3, hx3⟩; (obtain rfl := bool_f hb3 Hs.out; clear hb3; have R3 := Lib.hid (Hr.out.ext hx3); have d0 := R3.out.c0; have p0 := R3.out.f 0; have d1 := (R3.out.set0 (k := 0)).c1; have p1 := (R3.out.set0 (k := 0)).f 1; have d2 := ((R3.out.set0 (k := 0)).set1 (x := (.slice none 0 0))).c2; have p2 := ((R3.out.set0 (k := 0)).set1 (x := (.slice none 0 0))).f 2; have d3 := (((R3.out.set0 (k := 0)).set1 (x := (.slice none 0 0))).set2 (k := 0)).c3; have p3 := (((R3.out.set0 (k := 0)).set1 (x := (.slice none 0 0))).set2 (k := 0)).f 3)))
    have Fin := Lib.hid (retc_fin (n := 0) (m := 0) (B := w.heap.size + 2) R3.out (Own.nil _ _) (Own.nil _ _) (by omega) (Hx2.out.tr hx3) (by omega))
    have q0 := Fin.out.1.c0
    have q1 := Fin.out.1.c1
    have q2 := Fin.out.1.c2
    have q3 := Fin.out.1.c3
    exact bodyPost_ret (v := .tuple #[.agg #[.int .i64 0, .slice none 0 0, .int .i64 0, .slice none 0 0], .bool false]) (by simp [results, Tryz.results5, q0, q1, q2, q3, go_sem]) rfl ⟨_, _, by rw [H.out.1, H.out.2.1], by rw [H.out.2.2.1]; exact Own.nil _ _, by rw [H.out.2.2.2]; exact Own.nil _ _, Apart.nil _, Fin.out.2.2.2⟩
end Go.Proofs.YtjecdmlojgmbeaaGreatDoor
