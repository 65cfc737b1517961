/- Contracts: mirrored, AxesOf, IsMirrored, CountBeats (of rhythms that are in order). -/
import Derived.Test.YtnbfcdanpplllaaFrot
import Derived.Test.YtnbfcdanpplllaaFequ
import Derived.Test.YtnbfcdanpplllaaFrok
import Derived.Deep.RegionHeld3
namespace Go.Proofs.Ytnbfcdanpplllaa
open Go.RowKit
/-- each number turned -/
def negL (l : List Int) : List Int := l.map fun x => -x
theorem negL_len (l : List Int) : (negL l).length = l.length := by simp [negL]
theorem negL_take {j : Nat} {l : List Int} {x : Int} (h : l[j]? = some x) : negL (l.take (j + 1)) = negL (l.take j) ++ [-x] := by
  unfold negL; rw [take_succ h]; simp
/-- the mirror -/
def mrL (n : Nat) (l : List Int) : List Int := rhL n (remL n (negL l))
/-- the axes below k -/
def axUp (n : Nat) (l : List Int) (k : Nat) : List Int := (rng k).filter fun j => decide (rotL n (mrL n l) j = l)
theorem axUp_t {n : Nat} {l : List Int} {k : Nat} (h : rotL n (mrL n l) k = l) : axUp n l (k + 1) = axUp n l k ++ [(k : Int)] := by
  unfold axUp; rw [rng_succ, List.filter_append]; simp [List.filter_cons, h]
theorem axUp_f {n : Nat} {l : List Int} {k : Nat} (h : ¬ rotL n (mrL n l) k = l) : axUp n l (k + 1) = axUp n l k := by
  unfold axUp; rw [rng_succ, List.filter_append]; simp [List.filter_cons, h]
theorem axUp_len (n : Nat) (l : List Int) (k : Nat) : (axUp n l k).length ≤ k := by
  unfold axUp; exact Nat.le_trans (List.length_filter_le _ _) (Nat.le_of_eq (rng_len k))
theorem neg1_c (x : Int) (w : World) (hx : 0 ≤ x ∧ x ≤ 1000) :
    Calls Try.prog 49 #[.int .i64 x] w fun e w' => e = .returned (.int .i64 (-x)) ∧ w = w' := by
  go_enter Try.func49, Try.ntmps49
  go_wp2
  go_ret
  exact ⟨rfl, rfl⟩
theorem movedNeg_c (n : Nat) (l : List Int) (v : Value) (w : World) (hv : Ints w v l) (hn : 1 ≤ n ∧ n ≤ 24) (hl : ∀ x ∈ l, 0 ≤ x ∧ x < n) (hlen : l.length ≤ n) :
    Calls Try.prog 38 #[.agg #[.int .i64 n, v], .func (.func 49) #[] #[]] w (RR n (mrL n l) w) := by
  obtain ⟨A, c, hve, _, _⟩ := hv.form0
  obtain ⟨m, hm⟩ : ∃ m, m = l.length := ⟨_, rfl⟩
  rw [← hm] at hve hlen
  subst hve
  have hx1 := one_box w (.cells #[.int .i64 n, .slice A m c] 27)
  have Hp := Lib.hid (RVar.new (T := 27) w n (.slice A m c))
  have hst := ROut.start0 (w.alloc (.cells #[.int .i64 n, .slice A m c] 27))
  have Hst := Lib.hid hst
  have Hv := Lib.hid (hv.ext hx1)
  have Hm := Lib.hid hm
  have Hl := Lib.hid hl
  have Hx1 := Lib.hid hx1
  clear hv hm hl hst hx1
  go_enter Try.func38, Try.ntmps38
  go_wp2
  go_loopw [5, 11] (fun o i wr => ∃ j : Nat, j ≤ m ∧ i = .int .i64 j ∧ Hid (ROut (w.alloc (.cells #[.int .i64 n, .slice A m c] 27)) wr o (negL (l.take j)))) (fun _ i _ => m - (intOf i).toNat)
  case atStart => exact ⟨0, Nat.zero_le _, rfl, Hst.out⟩
  case round =>
    obtain ⟨j, hj, rfl, hr⟩ := hrel
    have hll : (negL (l.take j)).length ≤ j := by rw [negL_len, List.length_take]; omega
    have hcp0 := (Hp.out.ext hr.out.2.2).c0
    have hcp1 := (Hp.out.ext hr.out.2.2).c1
    by_cases hjm : j < m
    · obtain ⟨ad, c', hA, _, _⟩ := Hv.out.form (by rw [← Hm.out]; omega)
      rw [← Hm.out] at hA
      obtain ⟨rfl, rfl⟩ : A = some ad ∧ c = c' := by simpa using hA
      obtain ⟨x, hx⟩ : ∃ x, l[j]? = some x := ⟨_, List.getElem?_eq_getElem (by rw [← Hm.out]; omega)⟩
      have hc := (Hv.out.ext hr.out.2.2).cell hx
      have Hn := Lib.hid (negL_take hx)
      have hxr := Hl.out x (List.mem_of_getElem? hx)
      have hsz := hr.out.size
      clear hx hA
      go_wp2_with (first | (go_at_call 49; refine (neg1_c x _ (by omega)).mono ?_; rintro e wz ⟨rfl, rfl⟩) | (at_builtin; refine wp_append1 rfl (.tmp 15) (.tmp 19) rfl rfl rfl hr.out.2.1 (by unfold I64; omega) (by omega) hsz ?_; intro v' w' ho hg hb hat))
      go_roundw
      case rel => exact ⟨j + 1, by omega, by go_num, by unfold Hid; rw [Hn.out]; exact hr.out.app ho hg⟩
      case measure => simp [intOf]; omega
    · obtain rfl : j = m := by omega
      have Hall : Hid (negL (l.take j) = negL l) := by unfold Hid; rw [List.take_of_length_le (by rw [← Hm.out]; exact Nat.le_refl _)]
      have Ho := Lib.hid (show Own _ _ _ (negL l) by rw [← Hall.out]; exact hr.out.2.1)
      have hlr : (negL l).length ≤ 100000 := by rw [negL_len, ← Hm.out]; omega
      go_wp2_with (first | (go_at_call 29; refine (rhythmOf_c n (negL l) _ _ Ho.out.ints (by omega) (by omega) (by omega)).mono ?_; rintro e w2 ⟨u2, rfl, ho2, hx2⟩; obtain ⟨Au, nu, cu, rfl⟩ := ho2.form; have Hr := Lib.hid (ret_fin (n := (n : Int)) (hr.out.1.ext hx2) ho2 hr.out.size (hr.out.2.2.tr hx2)); have hd0 := (hr.out.1.ext hx2).c0; have hf0 := (hr.out.1.ext hx2).f 0; have hd1 := ((hr.out.1.ext hx2).set0 (m := (n : Int))).c1; have hf1 := ((hr.out.1.ext hx2).set0 (m := (n : Int))).f 1; simp only [World.size_alloc] at hd0 hf0 hd1 hf1))
      have hcf0 := Hr.out.1.c0
      have hcf1 := Hr.out.1.c1
      simp only [World.size_alloc] at hcf0 hcf1
      have ho3 := Hr.out.2.1.base (B' := w.heap.size) (by simp)
      have hx3 := Hx1.out.tr Hr.out.2.2
      simp only [World.size_alloc] at ho3 hx3
      exact bodyPost_ret (v := .agg #[.int .i64 n, .slice Au nu cu]) (by simp [results, Try.results38, hcf0, hcf1, go_sem]) rfl ⟨_, rfl, ho3, hx3⟩
set_option maxRecDepth 100000 in
theorem mirrored_c (n : Nat) (l : List Int) (v : Value) (w : World) (hv : Ints w v l) (hn : 1 ≤ n ∧ n ≤ 24) (hl : ∀ x ∈ l, 0 ≤ x ∧ x < n) (hlen : l.length ≤ n) : Calls Try.prog 43 #[.agg #[.int .i64 n, v]] w (RR n (mrL n l) w) := by
  obtain ⟨A, c, hve, _, _⟩ := hv.form0
  obtain ⟨m, hm⟩ : ∃ m, m = l.length := ⟨_, rfl⟩
  rw [← hm] at hve
  subst hve
  obtain ⟨w1, hw1⟩ : ∃ w1, w1 = w.alloc (.cells #[.int .i64 n, .slice A m c] 27) := ⟨_, rfl⟩
  have hx1 : Ext w w1 := by rw [hw1]; exact one_box w _
  have hv0 := RVar.new (T := 27) w1 0 (.slice none 0 0)
  have hx3 := one_box w1 (.cells #[.int .i64 0, .slice none 0 0] 27)
  have Hv := Lib.hid ((hv.ext hx1).ext hx3)
  have Hl := Lib.hid hl
  have Hlen := Lib.hid hlen
  have Hx3 := Lib.hid hx3
  have Hx1 := Lib.hid hx1
  have Hv0 := Lib.hid hv0
  subst hw1
  clear hv hm hl hlen hx1 hx3 hv0
  go_enter Try.func43, Try.ntmps43
  go_wp2_with (first | (go_at_call 38; refine (movedNeg_c n l _ _ Hv.out hn Hl.out Hlen.out).mono ?_; rintro e w2 ⟨u2, rfl, ho2, hx4⟩; obtain ⟨Au, nu, cu, rfl⟩ := ho2.form; have Hr := Lib.hid (ret_fin (n := (n : Int)) (Hv0.out.ext hx4) ho2 (by simp) (Hx3.out.tr hx4)); have hd0 := (Hv0.out.ext hx4).c0; have hf0 := (Hv0.out.ext hx4).f 0; have hd1 := ((Hv0.out.ext hx4).set0 (m := (n : Int))).c1; have hf1 := ((Hv0.out.ext hx4).set0 (m := (n : Int))).f 1; simp only [World.size_alloc] at hd0 hf0 hd1 hf1))
  have hcf0 := Hr.out.1.c0
  have hcf1 := Hr.out.1.c1
  simp only [World.size_alloc] at hcf0 hcf1
  have ho3 := Hr.out.2.1.base (B' := w.heap.size) (by simp)
  have hx5 := Hx1.out.tr Hr.out.2.2
  simp only [World.size_alloc] at ho3 hx5
  exact bodyPost_ret (v := .agg #[.int .i64 n, .slice Au nu cu]) (by simp [results, Try.results43, hcf0, hcf1, go_sem]) rfl ⟨_, rfl, ho3, hx5⟩
set_option maxRecDepth 100000 in
set_option maxHeartbeats 2000000 in
theorem axesOf_c (n : Nat) (l : List Int) (v : Value) (w : World) (hv : Ints w v l) (hr : RhyOk n l) : Calls Try.prog 33 #[.agg #[.int .i64 n, v]] w (RL (axUp n l n) w) := by
  obtain ⟨nn, hnn, hn1, hn24, hlen, hmem⟩ := hr.nat
  obtain rfl : nn = n := by omega
  have Hr := Lib.hid hr
  have Hl := Lib.hid hmem
  have Hlen := Lib.hid hlen
  have Hml : Hid (∀ x ∈ mrL nn l, 0 ≤ x ∧ x < nn) := fun x hx => (mem_rhL.1 hx).1
  have Hmlen : Hid ((mrL nn l).length ≤ nn) := rhL_len _ _
  clear hr hmem hnn hlen
  obtain ⟨A, c, hve, _, _⟩ := hv.form0
  obtain ⟨m, hm⟩ : ∃ m, m = l.length := ⟨_, rfl⟩
  rw [← hm] at hve
  subst hve
  have hx := one_box w (.cells #[.int .i64 (nn : Int), .slice A m c] 27)
  have ha := RVar.new (T := 27) w (nn : Int) (.slice A m c)
  have Hv := Lib.hid (hv.ext hx)
  have Hx := Lib.hid hx
  have Ra := Lib.hid ha
  clear hv hx hm ha
  have hc1 := Ra.out.c0
  have hc2 := Ra.out.c1
  go_enter Try.func33, Try.ntmps33
  go_wp2_with (first | (go_at_call 31; refine (rhythmOk_c nn l _ _ Hv.out).mono ?_; rintro e w1 ⟨b1, rfl, hb1, hx1⟩; obtain rfl := hb1.2 Hr.out; clear hb1; have hc3 := (Ra.out.ext hx1).c0; have hc4 := (Ra.out.ext hx1).c1))
  have Hst : Hid (Own w1 (w.heap.size + 1) (.slice none 0 0) (axUp nn l 0) ∧ Ext (w.alloc (.cells #[.int .i64 (nn : Int), .slice A m c] 27)) w1) := ⟨Own.nil _ _, hx1⟩
  clear hx1 hc1 hc2 hc3 hc4
  go_loopw [3, 10] (fun o i wr => ∃ j : Nat, j ≤ nn ∧ i = .int .i64 j ∧ Hid (Own wr (w.heap.size + 1) o (axUp nn l j) ∧ Ext (w.alloc (.cells #[.int .i64 (nn : Int), .slice A m c] 27)) wr)) (fun _ i _ => nn - (intOf i).toNat)
  case atStart => exact ⟨0, Nat.zero_le _, rfl, Hst.out⟩
  case round =>
    clear Hst
    obtain ⟨j, hj, rfl, hh⟩ := hrel
    have hlx := axUp_len nn l j
    by_cases hjn : j < nn
    · have hji : (j : Int) < (nn : Int) := by omega
      have Rr := Lib.hid (Ra.out.ext hh.out.2)
      have Hvr := Lib.hid (Hv.out.ext hh.out.2)
      have hc1 := Rr.out.c0
      have hc2 := Rr.out.c1
      have hsz : w.heap.size + 1 ≤ wr.heap.size := by have := hh.out.2.size; simpa using this
      by_cases hq : rotL nn (mrL nn l) j = l
      · have Hn := Lib.hid (axUp_t hq)
        have Hq := Lib.hid hq
        clear hq
        go_wp2
        first
          | (go_region_held3 (fun w' => w'.cell? ⟨w.heap.size, 0, none⟩ = some (.int .i64 nn) ∧ w'.cell? ⟨w.heap.size, 1, none⟩ = some (.slice A m c))
              (first
                | with_reducible exact ⟨(((Rr.out.extD hx3).ext hx4).ext hx5).c0, (((Rr.out.extD hx3).ext hx4).ext hx5).c1⟩
                | with_reducible exact ⟨((Rr.out.extD hx3).ext hx4).c0, ((Rr.out.extD hx3).ext hx4).c1⟩
                | with_reducible exact ⟨(Rr.out.extD hx3).c0, (Rr.out.extD hx3).c1⟩
                | (go_keep; done)
                | (refine ⟨?_, ?_⟩ <;> (go_keep; done)))
              (first
                | (go_at_call 43; refine (mirrored_c nn l _ _ Hvr.out.drew ⟨hn1, hn24⟩ Hl.out Hlen.out).mono ?_; rintro e w3 ⟨v3, rfl, ho3, hx3⟩; obtain ⟨A3, n3, c3, rfl⟩ := ho3.form)
                | (go_at_call 25; refine (rotated_c nn (mrL nn l) j _ _ ho3.ints ⟨hn1, hn24⟩ Hml.out Hmlen.out (by omega)).mono ?_; rintro e w4 ⟨v4, rfl, ho4, hx4⟩; obtain ⟨A4, n4, c4, rfl⟩ := ho4.form)
                | (go_at_call 44; refine (equals_c nn nn (rotL nn (mrL nn l) j) l _ _ _ ho4.ints ((Hvr.out.ext (Ext.ofD hx3)).ext hx4)).mono ?_; rintro e w5 ⟨b5, rfl, hb5, hx5⟩; obtain rfl := hb5.2 ⟨rfl, Hq.out⟩; clear hb5)))
          | fail
        all_goals
          have HX : Hid (Ext wr w5) := (Ext.ofD hx3).tr (hx4.tr hx5)
          have Ho5 := Lib.hid (hh.out.1.ext HX.out)
          have hsz5 : w.heap.size + 1 ≤ w5.heap.size := by have := HX.out.size; omega
          go_wp2_with (first | (at_builtin; refine wp_append1 rfl (.tmp 19) (.tmp 21) rfl rfl rfl Ho5.out (by unfold I64; omega) (by omega) hsz5 ?_; intro v' w' ho hg hb hat))
          go_roundw
          case rel => exact ⟨j + 1, by omega, by go_num, by unfold Hid; rw [Hn.out]; exact ⟨ho, (hh.out.2.tr HX.out).mark Ho5.out hg (by simp)⟩⟩
          case measure => simp [intOf]; omega
      · have Hn := Lib.hid (axUp_f hq)
        have Hq := Lib.hid hq
        clear hq
        go_wp2
        first
          | (go_region_held3 (fun w' => w'.cell? ⟨w.heap.size, 0, none⟩ = some (.int .i64 nn) ∧ w'.cell? ⟨w.heap.size, 1, none⟩ = some (.slice A m c))
              (first
                | with_reducible exact ⟨(((Rr.out.extD hx3).ext hx4).ext hx5).c0, (((Rr.out.extD hx3).ext hx4).ext hx5).c1⟩
                | with_reducible exact ⟨((Rr.out.extD hx3).ext hx4).c0, ((Rr.out.extD hx3).ext hx4).c1⟩
                | with_reducible exact ⟨(Rr.out.extD hx3).c0, (Rr.out.extD hx3).c1⟩
                | (go_keep; done)
                | (refine ⟨?_, ?_⟩ <;> (go_keep; done)))
              (first
                | (go_at_call 43; refine (mirrored_c nn l _ _ Hvr.out.drew ⟨hn1, hn24⟩ Hl.out Hlen.out).mono ?_; rintro e w3 ⟨v3, rfl, ho3, hx3⟩; obtain ⟨A3, n3, c3, rfl⟩ := ho3.form)
                | (go_at_call 25; refine (rotated_c nn (mrL nn l) j _ _ ho3.ints ⟨hn1, hn24⟩ Hml.out Hmlen.out (by omega)).mono ?_; rintro e w4 ⟨v4, rfl, ho4, hx4⟩; obtain ⟨A4, n4, c4, rfl⟩ := ho4.form)
                | (go_at_call 44; refine (equals_c nn nn (rotL nn (mrL nn l) j) l _ _ _ ho4.ints ((Hvr.out.ext (Ext.ofD hx3)).ext hx4)).mono ?_; rintro e w5 ⟨b5, rfl, hb5, hx5⟩; obtain rfl := bool_f hb5 (fun h => Hq.out h.2); clear hb5)))
          | fail
        all_goals
          have HX : Hid (Ext wr w5) := (Ext.ofD hx3).tr (hx4.tr hx5)
          go_wp2
          go_roundw
          case rel => exact ⟨j + 1, by omega, by go_num, by unfold Hid; rw [Hn.out]; exact ⟨hh.out.1.ext HX.out, hh.out.2.tr HX.out⟩⟩
          case measure => simp [intOf]; omega
    · obtain rfl : j = nn := by omega
      have hc1 := (Ra.out.ext hh.out.2).c0
      go_wp2
      go_ret
      exact ⟨_, rfl, hh.out.1.base (by omega), Hx.out.tr hh.out.2⟩
theorem isMirrored_t (n : Nat) (l : List Int) (v : Value) (w : World) (hv : Ints w v l) (hr : RhyOk n l) (ha : 0 < (axUp n l n).length) : Calls Try.prog 17 #[.agg #[.int .i64 n, v]] w (fun e w' => e = .returned (.bool true) ∧ Ext w w') := by
  have Hr := Lib.hid hr
  obtain ⟨a, haa⟩ : ∃ a, a = (axUp n l n).length := ⟨_, rfl⟩
  rw [← haa] at ha
  have Hq := Lib.hid haa
  have hai : (0 : Int) < (a : Int) := by omega
  clear hr haa
  obtain ⟨A, c, hve, _, _⟩ := hv.form0
  obtain ⟨m, hm⟩ : ∃ m, m = l.length := ⟨_, rfl⟩
  rw [← hm] at hve
  subst hve
  have hx := one_box w (.cells #[.int .i64 (n : Int), .slice A m c] 27)
  have ha := RVar.new (T := 27) w (n : Int) (.slice A m c)
  have Hv := Lib.hid (hv.ext hx)
  have Hx := Lib.hid hx
  have Ra := Lib.hid ha
  clear hv hx hm ha
  have hc1 := Ra.out.c0
  have hc2 := Ra.out.c1
  go_enter Try.func17, Try.ntmps17
  go_wp2_with (first | (go_at_call 33; refine (axesOf_c n l _ _ Hv.out Hr.out).mono ?_; rintro e w1 ⟨v1, rfl, ho1, hx1⟩; (obtain ⟨A1, c1, hv1, _, _⟩ := ho1.slice; rw [← Hq.out] at hv1; subst hv1)))
  go_ret
  exact ⟨rfl, Hx.out.tr hx1⟩
theorem countBeats_t (n : Nat) (l : List Int) (v : Value) (w : World) (hv : Ints w v l) (hr : RhyOk n l) : Calls Try.prog 15 #[.agg #[.int .i64 n, v]] w (RI l.length w) := by
  have Hr := Lib.hid hr
  clear hr
  obtain ⟨a, haa⟩ : ∃ a, a = l.length := ⟨_, rfl⟩
  rw [← haa]
  have Hq := Lib.hid haa
  clear haa
  obtain ⟨A, c, hve, _, _⟩ := hv.form0
  obtain ⟨m, hm⟩ : ∃ m, m = l.length := ⟨_, rfl⟩
  rw [← hm] at hve
  subst hve
  have hx := one_box w (.cells #[.int .i64 (n : Int), .slice A m c] 27)
  have ha := RVar.new (T := 27) w (n : Int) (.slice A m c)
  have Hv := Lib.hid (hv.ext hx)
  have Hx := Lib.hid hx
  have Ra := Lib.hid ha
  clear hv hx hm ha
  have hma : m = a := by obtain ⟨_, _, h, _, _⟩ := Hv.out.form0; simp only [Value.slice.injEq] at h; rw [Hq.out]; exact h.2.1
  subst hma
  have hc1 := Ra.out.c0
  have hc2 := Ra.out.c1
  go_enter Try.func15, Try.ntmps15
  go_wp2_with (first | (go_at_call 31; refine (rhythmOk_c (n : Int) l _ _ Hv.out).mono ?_; rintro e w1 ⟨b1, rfl, hb1, hx1⟩; (obtain rfl := hb1.2 Hr.out; clear hb1; have hc3 := (Ra.out.ext hx1).c0; have hc4 := (Ra.out.ext hx1).c1)))
  go_ret
  exact ⟨rfl, Hx.out.tr hx1⟩
end Go.Proofs.Ytnbfcdanpplllaa
