/- Contracts: differences, DifferencesOf; rotationTo, RotationTo, AreRotations; the laws' sum. -/
import Derived.Test.YtjkgioimefagoaaFtil
import Derived.Test.YtjkgioimefagoaaFmrr
namespace Go.Proofs.Ytjkgioimefagoaa
open Go.RowKit
/-- the counts of the differences, of p with r's elements -/
def dfIn (n : Nat) (p : Int) (a r : List Int) : List Int := r.foldl (fun a q => bmp a ((p - q) % (n : Int)).toNat) a
def dfL (n : Nat) (l r : List Int) : List Int := l.foldl (fun a p => dfIn n p a r) (List.replicate n 0)
theorem dfIn_sc (n : Nat) (p : Int) (a r : List Int) : dfIn n p a r = scIn n p a (negL r) := by
  unfold dfIn scIn negL
  rw [List.foldl_map]
  rfl
theorem dfL_sc (n : Nat) (l r : List Int) : dfL n l r = scL n l (negL r) := by
  unfold dfL scL
  simp only [dfIn_sc]
theorem few_dfL (n : Nat) (l r : List Int) (h1 : l.length ≤ 24) (h2 : r.length ≤ 24) : Few n 576 (dfL n l r) := by
  rw [dfL_sc]; exact few_scL n l (negL r) h1 (by rw [negL_len]; exact h2)
theorem Few.inD {n : Nat} {p : Int} (r : List Int) {N : Nat} {a : List Int} (h : Few n N a) : Few n (N + r.length) (dfIn n p a r) := by
  rw [dfIn_sc]
  have := h.inn (p := p) (negL r)
  rw [negL_len] at this
  exact this
theorem dfL_take {n : Nat} {l r : List Int} {k : Nat} {p : Int} (h : l[k]? = some p) : dfL n (l.take (k + 1)) r = dfIn n p (dfL n (l.take k) r) r := by
  unfold dfL; rw [take_succ h, List.foldl_append]; rfl
theorem dfIn_take {n : Nat} {a r : List Int} {p : Int} {k : Nat} {q : Int} (h : r[k]? = some q) : dfIn n p a (r.take (k + 1)) = bmp (dfIn n p a (r.take k)) ((p - q) % (n : Int)).toNat := by
  unfold dfIn; rw [take_succ h, List.foldl_append]; rfl
set_option maxRecDepth 100000 in
set_option maxHeartbeats 1000000 in
theorem differences_c (n : Nat) (l : List Int) (v : Value) (w : World) (hv : Ints w v l) (hn : 1 ≤ n ∧ n ≤ 24) (hl : ∀ x ∈ l, 0 ≤ x ∧ x < n) (hll : l.length ≤ 24) : Calls Try.prog 22 #[.agg #[.int .i64 n, v]] w (RL (dfL n l l) w) := by
  have Hl := Lib.hid hl
  clear hl
  obtain ⟨A, c, hve, _, _⟩ := hv.form0
  obtain ⟨m, hm⟩ : ∃ m, m = l.length := ⟨_, rfl⟩
  rw [← hm] at hve
  subst hve
  have hx := one_box w (.cells #[.int .i64 (n : Int), .slice A m c] 25)
  have ha := RVar.new (T := 25) w (n : Int) (.slice A m c)
  have Hv := Lib.hid (hv.ext hx)
  have Hx := Lib.hid hx
  have Ra := Lib.hid ha
  clear hv hx hm ha
  obtain ⟨k, hkm⟩ : ∃ k, k = m := ⟨_, rfl⟩
  subst hkm
  have hk : k = l.length := by obtain ⟨_, _, h, _, _⟩ := Hv.out.form0; simp only [Value.slice.injEq] at h; exact h.2.1
  have hkk : k ≤ 24 := by omega
  have Hk := Lib.hid hk
  have Hll := Lib.hid hll
  clear hk hll
  have ha0 := Ra.out.c0
  have hni : (1 : Int) ≤ (n : Int) := by omega
  have hn0 : ¬ n = 0 := by omega
  go_enter Try.func22, Try.ntmps22
  go_wp2_with (first | (at_make; refine wp_make1 rfl (.tmp 9) rfl n rfl (by omega) (Nat.le_refl _) ?_; intro w1 hown1 hx1; have ha1 := (Ra.out.ext hx1).c1))
  go_loopw [14] (fun i wr => ∃ j : Nat, j ≤ k ∧ i = .int .i64 j ∧ Hid (Own wr (w.heap.size + 1) (.slice (some ⟨w.heap.size + 1, 0, none⟩) n n) (dfL n (l.take j) l) ∧ Ext (w.alloc (.cells #[.int .i64 (n : Int), .slice A k c] 25)) wr)) (fun i _ => k - (intOf i).toNat)
  case atStart => exact ⟨0, Nat.zero_le _, rfl, by simpa [dfL, Nat.add_assoc] using hown1, hx1⟩
  case round =>
    clear hown1 ha1
    obtain ⟨j, hj, rfl, hh⟩ := hrel
    by_cases hjk : j < k
    · obtain ⟨p0, hp⟩ : ∃ p, l[j]? = some p := ⟨_, List.getElem?_eq_getElem (by rw [← Hk.out]; exact hjk)⟩
      have hpr := Hl.out p0 (List.mem_of_getElem? hp)
      obtain ⟨p, rfl⟩ := Int.eq_ofNat_of_zero_le hpr.1
      have hvx := Hv.out.ext hh.out.2
      obtain ⟨ad, c2, hA, _, _⟩ := hvx.form (by rw [← Hk.out]; omega)
      rw [← Hk.out] at hA
      obtain ⟨rfl, rfl⟩ : A = some ad ∧ c = c2 := by simp only [Value.slice.injEq] at hA; exact ⟨hA.1, hA.2.2⟩
      have hcp := hvx.cell hp
      have hb1 := (Ra.out.ext hh.out.2).c1
      have hjki : (j : Int) < (k : Int) := by omega
      have Hst := Lib.hid (dfL_take (n := n) (r := l) hp)
      have Hfew := Lib.hid (few_dfL n (l.take j) l (by rw [List.length_take]; have := Hll.out; omega) Hll.out)
      clear hp hvx hA
      obtain ⟨a, ha⟩ : ∃ a, a = dfL n (l.take j) l := ⟨_, rfl⟩
      rw [← ha] at hh Hst Hfew
      have Hstart : Hid (Own wr (w.heap.size + 1) (.slice (some ⟨w.heap.size + 1, 0, none⟩) n n) (dfIn n p a (l.take 0)) ∧ Ext (w.alloc (.cells #[.int .i64 (n : Int), .slice (some ad) k c] 25)) wr) := hh.out
      clear hh ha
      go_wp2
      go_loopw [21] (fun i wr => ∃ m : Nat, m ≤ k ∧ i = .int .i64 m ∧ Hid (Own wr (w.heap.size + 1) (.slice (some ⟨w.heap.size + 1, 0, none⟩) n n) (dfIn n p a (l.take m)) ∧ Ext (w.alloc (.cells #[.int .i64 (n : Int), .slice (some ad) k c] 25)) wr)) (fun i _ => k - (intOf i).toNat)
      case atStart => exact ⟨0, Nat.zero_le _, rfl, Hstart.out⟩
      case round =>
        clear Hstart
        obtain ⟨m, hm, rfl, hh⟩ := hrel
        by_cases hmk : m < k
        · obtain ⟨q0, hq⟩ : ∃ q, l[m]? = some q := ⟨_, List.getElem?_eq_getElem (by rw [← Hk.out]; exact hmk)⟩
          have hqr := Hl.out q0 (List.mem_of_getElem? hq)
          obtain ⟨q, rfl⟩ := Int.eq_ofNat_of_zero_le hqr.1
          have hux := Hv.out.ext hh.out.2
          have hcq := hux.cell hq
          have hmki : (m : Int) < (k : Int) := by omega
          have hnn := (Ra.out.ext hh.out.2).c0
          have Hst2 := Lib.hid (dfIn_take (n := n) (a := a) (p := p) hq)
          have Hfew2 := Lib.hid (Hfew.out.inD (p := p) (l.take m))
          obtain ⟨z, hz⟩ := Int.eq_ofNat_of_zero_le (show 0 ≤ ((p : Int) - (q : Int)) % (n : Int) from Int.emod_nonneg _ (by omega))
          have hzn : z < n := by have := Int.emod_lt_of_pos ((p : Int) - (q : Int)) (show (0 : Int) < n by omega); omega
          rw [hz, Int.toNat_natCast] at Hst2
          obtain ⟨b, hb⟩ : ∃ b, b = dfIn n p a (l.take m) := ⟨_, rfl⟩
          rw [← hb] at hh Hst2 Hfew2
          have hbz : b[z]? = some (b.getD z 0) := get_of_lt (by rw [Hfew2.out.len]; exact hzn)
          obtain ⟨y, hy⟩ : ∃ y, y = b.getD z 0 := ⟨_, rfl⟩
          rw [← hy] at hbz
          have hyb := Hfew2.out.le z y hbz
          have hyb2 : y ≤ 600 := by have : (l.take m).length ≤ 24 := by rw [List.length_take]; omega
                                    omega
          have hcy := hh.out.1.cell hbz
          have hfy := hh.out.1.free z
          have hst := hh.out.1.stored z (x := y + 1) (by unfold I64; omega)
          rw [show b.set z (y + 1) = bmp b z by unfold bmp; rw [← hy], ← Hst2.out] at hst
          have Hst3 := Lib.hid hst
          have hzi : (z : Int) < (n : Int) := by omega
          have Hz := Lib.hid hz
          clear hq hux hb hy hbz hst hz
          go_wp2_with (first | (go_at_call 40; refine (remainder_c ((p : Int) - (q : Int)) n _ (by omega) (by omega)).mono ?_; rintro e wz ⟨rfl, rfl⟩; rw [Hz.out]))
          go_roundw
          case rel => exact ⟨m + 1, by omega, by go_num, Hst3.out.1, hh.out.2.setCell (by simp) _⟩
          case measure => simp [intOf]; omega
        · obtain rfl : m = k := by omega
          have ht : Hid (l.take m = l) := List.take_of_length_le (by rw [← Hk.out]; exact Nat.le_refl _)
          have H0 := hh.out
          rw [ht.out, ← Hst.out] at H0
          have H1 := Lib.hid H0
          clear H0
          go_wp2
          go_roundw
          case rel => exact ⟨j + 1, by omega, by go_num, H1.out⟩
          case measure => simp [intOf]; omega
    · obtain rfl : j = k := by omega
      have ht : Hid (l.take j = l) := List.take_of_length_le (by rw [← Hk.out]; exact Nat.le_refl _)
      go_wp2
      go_ret
      exact ⟨_, rfl, by have := hh.out.1.base (B' := w.heap.size) (by omega); rw [ht.out] at this; exact this, Hx.out.tr hh.out.2⟩
set_option maxRecDepth 100000 in
theorem differencesOf_c (n : Nat) (l : List Int) (v : Value) (w : World) (hv : Ints w v l) (hr : RhyOk n l) : Calls Try.prog 6 #[.agg #[.int .i64 n, v]] w (RL (dfL n l l) w) := by
  have Hr := Lib.hid hr
  obtain ⟨nn, hnn, hn1, hn24, hlen, hmem⟩ := hr.nat
  obtain rfl : nn = n := by omega
  have Hm := Lib.hid hmem
  have Hll : Hid (l.length ≤ 24) := by unfold Hid; omega
  clear hr hmem hnn hlen
  obtain ⟨A, c, hve, _, _⟩ := hv.form0
  obtain ⟨m, hm⟩ : ∃ m, m = l.length := ⟨_, rfl⟩
  rw [← hm] at hve
  subst hve
  have hx := one_box w (.cells #[.int .i64 (nn : Int), .slice A m c] 25)
  have ha := RVar.new (T := 25) w (nn : Int) (.slice A m c)
  have Hv := Lib.hid (hv.ext hx)
  have Hx := Lib.hid hx
  have Ra := Lib.hid ha
  clear hv hx hm ha
  have hc1 := Ra.out.c0
  have hc2 := Ra.out.c1
  go_enter Try.func6, Try.ntmps6
  go_wp2_with (first | (go_at_call 21; refine (rhythmOk_c (nn : Int) l _ _ Hv.out).mono ?_; rintro e w3 ⟨b3, rfl, hb3, hx3⟩; (obtain rfl := hb3.2 Hr.out; clear hb3; have hd1 := (Ra.out.ext hx3).c0; have hd2 := (Ra.out.ext hx3).c1)) | (go_at_call 22; refine (differences_c nn l _ _ (Hv.out.ext hx3) ⟨hn1, hn24⟩ Hm.out Hll.out).mono ?_; rintro e w4 ⟨v4, rfl, ho4, hx4⟩))
  go_ret
  exact ⟨_, rfl, ho4.base (by have := (Hx.out.tr hx3).size; exact this), Hx.out.tr (hx3.tr hx4)⟩
set_option maxRecDepth 100000 in
set_option maxHeartbeats 1000000 in
theorem rotationTo_t (n : Nat) (l r : List Int) (v u : Value) (w : World) (hv : Ints w v l) (hu : Ints w u r) (hr : RhyOk n l) (h : ∃ k : Nat, k < n ∧ rotL n l k = r) : Calls Try.prog 45 #[.agg #[.int .i64 n, v], .agg #[.int .i64 n, u]] w (fun e w' => ∃ k : Nat, e = .returned (.int .i64 k) ∧ Ext w w') := by
  obtain ⟨nn, hnn, hn1, hn24, hlen, hmem⟩ := hr.nat
  obtain rfl : nn = n := by omega
  have Hl := Lib.hid hmem
  have Hlen := Lib.hid hlen
  have Hk := Lib.hid h
  clear hr hmem hnn hlen h
  obtain ⟨A, c, hve, _, _⟩ := hv.form0
  obtain ⟨A', c', hue, _, _⟩ := hu.form0
  obtain ⟨k, hk⟩ : ∃ k, k = l.length := ⟨_, rfl⟩
  obtain ⟨k', hk'⟩ : ∃ k', k' = r.length := ⟨_, rfl⟩
  rw [← hk] at hve
  rw [← hk'] at hue
  subst hve
  subst hue
  have hx := two_boxes w (.cells #[.int .i64 (nn : Int), .slice A k c] 25) (.cells #[.int .i64 (nn : Int), .slice A' k' c'] 25)
  have ha := (RVar.new (T := 25) w (nn : Int) (.slice A k c)).ext (one_box _ (.cells #[.int .i64 (nn : Int), .slice A' k' c'] 25))
  have hb : RVar ((w.alloc (.cells #[.int .i64 (nn : Int), .slice A k c] 25)).alloc (.cells #[.int .i64 (nn : Int), .slice A' k' c'] 25)) (w.heap.size + 1) (nn : Int) (.slice A' k' c') := by
    simpa only [World.size_alloc] using RVar.new (T := 25) (w.alloc (.cells #[.int .i64 (nn : Int), .slice A k c] 25)) (nn : Int) (.slice A' k' c')
  have Hv := Lib.hid (hv.ext hx)
  have Hu := Lib.hid (hu.ext hx)
  have Hx := Lib.hid hx
  have Ha := Lib.hid ha
  have Hb := Lib.hid hb
  clear hv hu hx hk hk' ha hb
  have hc1 := Ha.out.c0
  go_enter Try.func45, Try.ntmps45
  go_wp2
  go_loopw [8] (fun i wr => ∃ j : Nat, j ≤ nn ∧ i = .int .i64 j ∧ Hid ((∀ i < j, ¬ rotL nn l (i : Nat) = r) ∧ Ext ((w.alloc (.cells #[.int .i64 (nn : Int), .slice A k c] 25)).alloc (.cells #[.int .i64 (nn : Int), .slice A' k' c'] 25)) wr)) (fun i _ => nn - (intOf i).toNat)
  case atStart => exact ⟨0, Nat.zero_le _, rfl, (fun i hi => absurd hi (Nat.not_lt_zero _)), Below.refl _ _⟩
  case round =>
    clear hc1
    obtain ⟨j, hj, rfl, hh⟩ := hrel
    have hjn : j < nn := by
      obtain ⟨k, hk1, hk2⟩ := Hk.out
      by_cases h : k < j
      · exact absurd hk2 (hh.out.1 k h)
      · omega
    have hji : (j : Int) < (nn : Int) := by omega
    have Raa := Lib.hid (Ha.out.ext hh.out.2)
    have Rbb := Lib.hid (Hb.out.ext hh.out.2)
    have Hvr := Lib.hid (Hv.out.ext hh.out.2)
    have Hur := Lib.hid (Hu.out.ext hh.out.2)
    have hc1 := Raa.out.c0
    have hc2 := Raa.out.c1
    have hc3 := Rbb.out.c0
    have hc4 := Rbb.out.c1
    by_cases hq : rotL nn l j = r
    · have Hq := Lib.hid hq
      clear hq
      go_wp2
      first
        | (go_region_held3 (fun w' => w'.cell? ⟨w.heap.size, 0, none⟩ = some (.int .i64 nn) ∧ w'.cell? ⟨w.heap.size, 1, none⟩ = some (.slice A k c) ∧ w'.cell? ⟨w.heap.size + 1, 0, none⟩ = some (.int .i64 nn) ∧ w'.cell? ⟨w.heap.size + 1, 1, none⟩ = some (.slice A' k' c'))
            (first
              | with_reducible exact ⟨((Raa.out.extD hx3).ext hx4).c0, ((Raa.out.extD hx3).ext hx4).c1, ((Rbb.out.extD hx3).ext hx4).c0, ((Rbb.out.extD hx3).ext hx4).c1⟩
              | with_reducible exact ⟨(Raa.out.extD hx3).c0, (Raa.out.extD hx3).c1, (Rbb.out.extD hx3).c0, (Rbb.out.extD hx3).c1⟩
              | (go_keep; done)
              | (refine ⟨?_, ?_, ?_, ?_⟩ <;> (go_keep; done)))
            (first
              | (go_at_call 43; refine (rotated_c nn l j _ _ Hvr.out.drew ⟨hn1, hn24⟩ Hl.out Hlen.out (by omega)).mono ?_; rintro e w3 ⟨v3, rfl, ho3, hx3⟩; obtain ⟨A3, n3, c3, rfl⟩ := ho3.form)
              | (go_at_call 28; refine (equals_c nn nn (rotL nn l j) r _ _ _ ho3.ints (Hur.out.ext (Ext.ofD hx3))).mono ?_; rintro e w4 ⟨b4, rfl, hb4, hx4⟩; obtain rfl := hb4.2 ⟨rfl, Hq.out⟩; clear hb4)))
        | fail
      all_goals
        go_wp2
        go_ret
        exact ⟨j, rfl, Hx.out.tr (hh.out.2.tr ((Ext.ofD hx3).tr hx4))⟩
    · have Hq := Lib.hid hq
      have Hn : Hid (∀ i < j + 1, ¬ rotL nn l (i : Nat) = r) := fun i hi => by
        by_cases e : i = j
        · rw [e]; exact hq
        · exact hh.out.1 i (by omega)
      clear hq
      go_wp2
      first
        | (go_region_held3 (fun w' => w'.cell? ⟨w.heap.size, 0, none⟩ = some (.int .i64 nn) ∧ w'.cell? ⟨w.heap.size, 1, none⟩ = some (.slice A k c) ∧ w'.cell? ⟨w.heap.size + 1, 0, none⟩ = some (.int .i64 nn) ∧ w'.cell? ⟨w.heap.size + 1, 1, none⟩ = some (.slice A' k' c'))
            (first
              | with_reducible exact ⟨((Raa.out.extD hx3).ext hx4).c0, ((Raa.out.extD hx3).ext hx4).c1, ((Rbb.out.extD hx3).ext hx4).c0, ((Rbb.out.extD hx3).ext hx4).c1⟩
              | with_reducible exact ⟨(Raa.out.extD hx3).c0, (Raa.out.extD hx3).c1, (Rbb.out.extD hx3).c0, (Rbb.out.extD hx3).c1⟩
              | (go_keep; done)
              | (refine ⟨?_, ?_, ?_, ?_⟩ <;> (go_keep; done)))
            (first
              | (go_at_call 43; refine (rotated_c nn l j _ _ Hvr.out.drew ⟨hn1, hn24⟩ Hl.out Hlen.out (by omega)).mono ?_; rintro e w3 ⟨v3, rfl, ho3, hx3⟩; obtain ⟨A3, n3, c3, rfl⟩ := ho3.form)
              | (go_at_call 28; refine (equals_c nn nn (rotL nn l j) r _ _ _ ho3.ints (Hur.out.ext (Ext.ofD hx3))).mono ?_; rintro e w4 ⟨b4, rfl, hb4, hx4⟩; obtain rfl := bool_f hb4 (fun h => Hq.out h.2); clear hb4)))
        | fail
      all_goals
        go_wp2
        go_roundw
        case rel => exact ⟨j + 1, by omega, by go_num, Hn.out, hh.out.2.tr ((Ext.ofD hx3).tr hx4)⟩
        case measure => simp [intOf]; omega
set_option maxRecDepth 100000 in
theorem rotationToF_t (n : Nat) (l r : List Int) (v u : Value) (w : World) (hv : Ints w v l) (hu : Ints w u r) (hr : RhyOk n l) (hr2 : RhyOk n r) (h : ∃ k : Nat, k < n ∧ rotL n l k = r) : Calls Try.prog 25 #[.agg #[.int .i64 n, v], .agg #[.int .i64 n, u]] w (fun e w' => ∃ k : Nat, e = .returned (.int .i64 k) ∧ Ext w w') := by
  have Hr := Lib.hid hr
  have Hs : Hid (sameOk n n l r) := ⟨hr, hr2, rfl⟩
  have Hk := Lib.hid h
  clear hr hr2 h
  obtain ⟨A, c, hve, _, _⟩ := hv.form0
  obtain ⟨A', c', hue, _, _⟩ := hu.form0
  obtain ⟨k, hk⟩ : ∃ k, k = l.length := ⟨_, rfl⟩
  obtain ⟨k', hk'⟩ : ∃ k', k' = r.length := ⟨_, rfl⟩
  rw [← hk] at hve
  rw [← hk'] at hue
  subst hve
  subst hue
  have hx := two_boxes w (.cells #[.int .i64 (n : Int), .slice A k c] 25) (.cells #[.int .i64 (n : Int), .slice A' k' c'] 25)
  have ha := (RVar.new (T := 25) w (n : Int) (.slice A k c)).ext (one_box _ (.cells #[.int .i64 (n : Int), .slice A' k' c'] 25))
  have hb : RVar ((w.alloc (.cells #[.int .i64 (n : Int), .slice A k c] 25)).alloc (.cells #[.int .i64 (n : Int), .slice A' k' c'] 25)) (w.heap.size + 1) (n : Int) (.slice A' k' c') := by
    simpa only [World.size_alloc] using RVar.new (T := 25) (w.alloc (.cells #[.int .i64 (n : Int), .slice A k c] 25)) (n : Int) (.slice A' k' c')
  have Hv := Lib.hid (hv.ext hx)
  have Hu := Lib.hid (hu.ext hx)
  have Hx := Lib.hid hx
  have Ha := Lib.hid ha
  have Hb := Lib.hid hb
  clear hv hu hx hk hk' ha hb
  have hc1 := Ha.out.c0
  have hc2 := Ha.out.c1
  have hc3 := Hb.out.c0
  have hc4 := Hb.out.c1
  go_enter Try.func25, Try.ntmps25
  go_wp2_with (first | (go_at_call 44; refine (sameSize_c (n : Int) (n : Int) l r _ _ _ Hv.out Hu.out).mono ?_; rintro e w1 ⟨b1, rfl, hb1, hx1⟩; (obtain rfl := hb1.2 Hs.out; clear hb1; have hd1 := (Ha.out.ext hx1).c0; have hd2 := (Ha.out.ext hx1).c1; have hd3 := (Hb.out.ext hx1).c0; have hd4 := (Hb.out.ext hx1).c1)) | (go_at_call 45; refine (rotationTo_t n l r _ _ _ (Hv.out.ext hx1) (Hu.out.ext hx1) Hr.out Hk.out).mono ?_; rintro e w2 ⟨k2, rfl, hx2⟩))
  go_ret
  exact ⟨k2, rfl, Hx.out.tr (hx1.tr hx2)⟩
set_option maxRecDepth 100000 in
theorem areRotations_t (n : Nat) (l r : List Int) (v u : Value) (w : World) (hv : Ints w v l) (hu : Ints w u r) (hr : RhyOk n l) (hr2 : RhyOk n r) (h : ∃ k : Nat, k < n ∧ rotL n l k = r) : Calls Try.prog 10 #[.agg #[.int .i64 n, v], .agg #[.int .i64 n, u]] w (fun e w' => e = .returned (.bool true) ∧ Ext w w') := by
  have Hr := Lib.hid hr
  have Hr2 := Lib.hid hr2
  have Hk := Lib.hid h
  clear hr hr2 h
  obtain ⟨A, c, hve, _, _⟩ := hv.form0
  obtain ⟨A', c', hue, _, _⟩ := hu.form0
  obtain ⟨k, hk⟩ : ∃ k, k = l.length := ⟨_, rfl⟩
  obtain ⟨k', hk'⟩ : ∃ k', k' = r.length := ⟨_, rfl⟩
  rw [← hk] at hve
  rw [← hk'] at hue
  subst hve
  subst hue
  have hx := two_boxes w (.cells #[.int .i64 (n : Int), .slice A k c] 25) (.cells #[.int .i64 (n : Int), .slice A' k' c'] 25)
  have ha := (RVar.new (T := 25) w (n : Int) (.slice A k c)).ext (one_box _ (.cells #[.int .i64 (n : Int), .slice A' k' c'] 25))
  have hb : RVar ((w.alloc (.cells #[.int .i64 (n : Int), .slice A k c] 25)).alloc (.cells #[.int .i64 (n : Int), .slice A' k' c'] 25)) (w.heap.size + 1) (n : Int) (.slice A' k' c') := by
    simpa only [World.size_alloc] using RVar.new (T := 25) (w.alloc (.cells #[.int .i64 (n : Int), .slice A k c] 25)) (n : Int) (.slice A' k' c')
  have Hv := Lib.hid (hv.ext hx)
  have Hu := Lib.hid (hu.ext hx)
  have Hx := Lib.hid hx
  have Ha := Lib.hid ha
  have Hb := Lib.hid hb
  clear hv hu hx hk hk' ha hb
  have hc1 := Ha.out.c0
  have hc2 := Ha.out.c1
  have hc3 := Hb.out.c0
  have hc4 := Hb.out.c1
  go_enter Try.func10, Try.ntmps10
  go_wp2_with (first | (go_at_call 25; refine (rotationToF_t n l r _ _ _ Hv.out Hu.out Hr.out Hr2.out Hk.out).mono ?_; rintro e w2 ⟨k2, rfl, hx2⟩))
  go_ret
  exact ⟨rfl, Hx.out.tr hx2⟩
/-- the sum of numbers -/
def sumI (l : List Int) : Int := l.foldl (fun a x => a + x) 0
theorem sumI_take {l : List Int} {k : Nat} {x : Int} (h : l[k]? = some x) : sumI (l.take (k + 1)) = sumI (l.take k) + x := by
  unfold sumI; rw [take_succ h, List.foldl_append]; rfl
theorem sumI_le {l : List Int} (h : ∀ x ∈ l, 0 ≤ x ∧ x ≤ 1000) : 0 ≤ sumI l ∧ sumI l ≤ 1000 * l.length := by
  have : ∀ k, k ≤ l.length → 0 ≤ sumI (l.take k) ∧ sumI (l.take k) ≤ 1000 * k := by
    intro k
    induction k with
    | zero => intro _; simp [sumI]
    | succ k ih =>
      intro hk
      have hx : l[k]? = some l[k] := List.getElem?_eq_getElem (by omega)
      rw [sumI_take hx]
      have h1 := h _ (List.mem_of_getElem? hx)
      have h2 := ih (by omega)
      omega
  have h2 := this l.length (Nat.le_refl _)
  rw [List.take_length] at h2
  exact h2
theorem lawSum_c (l : List Int) (v : Value) (w : World) (hv : Ints w v l) (hb : ∀ x ∈ l, 0 ≤ x ∧ x ≤ 1000) (hlen : l.length ≤ 1000) : Calls Try.prog 7 #[v] w fun e w' => e = .returned (.int .i64 (sumI l)) ∧ w = w' := by
  obtain ⟨A, c, hve, _, _⟩ := hv.form0
  obtain ⟨k, hk⟩ : ∃ k, k = l.length := ⟨_, rfl⟩
  rw [← hk] at hve
  subst hve
  have hk1 : k ≤ 1000 := by omega
  have Hv := Lib.hid hv
  have Hk := Lib.hid hk
  have Hb := Lib.hid hb
  clear hv hk hb
  go_enter Try.func7, Try.ntmps7
  go_wp2
  go_loop [3, 8] (fun s i => ∃ j : Nat, j ≤ k ∧ i = .int .i64 j ∧ s = .int .i64 (sumI (l.take j))) (fun _ i => k - (intOf i).toNat)
  case atStart => exact ⟨0, Nat.zero_le _, rfl, rfl⟩
  case round =>
    obtain ⟨j, hj, rfl, rfl⟩ := hrel
    have hs := sumI_le (l := l.take j) (fun x hx => Hb.out x (List.mem_of_mem_take hx))
    have hs2 : (l.take j).length ≤ 1000 := by rw [List.length_take]; omega
    by_cases hjk : j < k
    · obtain ⟨x, hx⟩ : ∃ x, l[j]? = some x := ⟨_, List.getElem?_eq_getElem (by rw [← Hk.out]; exact hjk)⟩
      obtain ⟨ad, c2, hA, _, _⟩ := Hv.out.form (by rw [← Hk.out]; omega)
      rw [← Hk.out] at hA
      obtain ⟨rfl, rfl⟩ : A = some ad ∧ c = c2 := by simp only [Value.slice.injEq] at hA; exact ⟨hA.1, hA.2.2⟩
      have hc := Hv.out.cell hx
      have hxb := Hb.out x (List.mem_of_getElem? hx)
      have Hn := Lib.hid (sumI_take hx)
      have hji : (j : Int) < (k : Int) := by omega
      obtain ⟨s, hse⟩ : ∃ s, s = sumI (l.take j) := ⟨_, rfl⟩
      rw [← hse] at hs Hn ⊢
      clear hx hA hse
      go_wp2
      go_round
      case rel => exact ⟨j + 1, by omega, by go_num, by rw [Hn.out]⟩
      case measure => simp [intOf]; omega
    · obtain rfl : j = k := by omega
      have ht : Hid (l.take j = l) := List.take_of_length_le (by rw [← Hk.out]; exact Nat.le_refl _)
      rw [ht.out]
      clear hs
      go_wp2
      go_ret
      exact ⟨rfl, rfl⟩
end Go.Proofs.Ytjkgioimefagoaa
