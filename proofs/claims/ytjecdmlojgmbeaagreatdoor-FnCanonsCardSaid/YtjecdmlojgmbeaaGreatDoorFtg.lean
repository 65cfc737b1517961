/- Contracts: tilesWith, IsTight, CountClashes, VoicesAt, HasBeat (the program's). -/
import Derived.Test.YtjecdmlojgmbeaaGreatDoorFtil
import Derived.Test.YtjecdmlojgmbeaaGreatDoorFlo
import Derived.Test.YtjecdmlojgmbeaaGreatDoorFcn
import Derived.Test.YtjecdmlojgmbeaaGreatDoorFtxt
namespace Go.Proofs.YtjecdmlojgmbeaaGreatDoor
open Go.RowKit
/-- whether two rhythms of n pulses tile -/
def tilB (n : Nat) (l r : List Int) : Bool := (l.length * r.length == n) && ((posL n (scL n l r)).length == n)
theorem tilB_ok {n : Nat} {l r : List Int} (h1 : RhyOk n l) (h2 : RhyOk n r) (h : tilB n l r = true) : TilOk n l r := by
  unfold tilB at h
  simp only [Bool.and_eq_true, beq_iff_eq] at h
  exact ⟨h1, h2, h.1, h.2⟩
theorem tilB_of {n : Nat} {l r : List Int} (h : TilOk n l r) : tilB n l r = true := by
  unfold tilB
  simp only [Bool.and_eq_true, beq_iff_eq]
  exact ⟨h.mul, h.full⟩
set_option maxRecDepth 100000 in
set_option maxHeartbeats 2000000 in
theorem tilesWith_f (n : Nat) (l r : List Int) (v u : Value) (w : World) (hv : Ints w v l) (hu : Ints w u r) (h1 : RhyOk n l) (h2 : RhyOk n r) (h : tilB n l r = false) : Calls Tryz.prog 28 #[.agg #[.int .i64 n, v], .agg #[.int .i64 n, u]] w (fun e w' => e = .returned (.bool false) ∧ Ext w w') := by
  have H1 := Lib.hid h1
  have H2 := Lib.hid h2
  have hn1 := h1.1
  have hlen1 := h1.len
  have hlen2 := h2.len
  clear h1 h2
  obtain ⟨A, c, hve, _, _⟩ := hv.form0
  obtain ⟨A', c', hue, _, _⟩ := hu.form0
  obtain ⟨k, hk⟩ : ∃ k, k = l.length := ⟨_, rfl⟩
  obtain ⟨k', hk'⟩ : ∃ k', k' = r.length := ⟨_, rfl⟩
  rw [← hk] at hve
  rw [← hk'] at hue
  subst hve
  subst hue
  have hx := two_boxes w (.cells #[.int .i64 (n : Int), .slice A k c] 25) (.cells #[.int .i64 (n : Int), .slice A' k' c'] 25)
  have ha := (RVar.new (T := 25) w (n : Int) (.slice A k c)).ext (one_box _ (.cells #[.int .i64 (n : Int), .slice A' k' c'] 25))
  have hb : RVar ((w.alloc (.cells #[.int .i64 (n : Int), .slice A k c] 25)).alloc (.cells #[.int .i64 (n : Int), .slice A' k' c'] 25)) (w.heap.size + 1) (n : Int) (.slice A' k' c') := by
    simpa only [World.size_alloc] using RVar.new (T := 25) (w.alloc (.cells #[.int .i64 (n : Int), .slice A k c] 25)) (n : Int) (.slice A' k' c')
  have Hv := Lib.hid (hv.ext hx)
  have Hu := Lib.hid (hu.ext hx)
  have Hx := Lib.hid hx
  have Ha := Lib.hid ha
  have Hb := Lib.hid hb
  clear hv hu hx hk hk' ha hb
  have hk : k = l.length := by obtain ⟨_, _, h, _, _⟩ := Hv.out.form0; simp only [Value.slice.injEq] at h; exact h.2.1
  have hk' : k' = r.length := by obtain ⟨_, _, h, _, _⟩ := Hu.out.form0; simp only [Value.slice.injEq] at h; exact h.2.1
  rw [← hk] at hlen1
  rw [← hk'] at hlen2
  have Hk := Lib.hid hk
  have Hk' := Lib.hid hk'
  obtain ⟨z, hz⟩ : ∃ z, z = k * k' := ⟨_, rfl⟩
  have hmi : (k : Int) * (k' : Int) = (z : Int) := by rw [hz, Int.natCast_mul]
  have hz2 : z ≤ 576 := by rw [hz]; exact Nat.le_trans (Nat.mul_le_mul hlen1 hlen2) (by decide)
  have hwn : IntKind.i64.wrap (z : Int) = (z : Int) := IntWalk.i64_in _ (by omega)
  have ha0 := Ha.out.c0
  have ha1 := Ha.out.c1
  have hb0 := Hb.out.c0
  have hb1 := Hb.out.c1
  have hcase : ¬ z = n ∨ (z = n ∧ ¬ (posL n (scL n l r)).length = n) := by
    by_cases e : z = n
    · refine .inr ⟨e, fun e2 => ?_⟩
      unfold tilB at h
      rw [← hk, ← hk', ← hz, e, e2] at h
      simp at h
    · exact .inl e
  clear hk hk' hz h
  rcases hcase with hzn | ⟨hzn, hpn⟩
  · have hb' : (((z : Int)) == (n : Int)) = false := by rw [beq_eq_false_iff_ne]; omega
    go_enter Tryz.func28, Tryz.ntmps28
    go_wp2
    have hb'' : (((z : Int)) == (n : Int)) = false := by rw [beq_eq_false_iff_ne]; omega
    have hb3 : (z == n) = false := by rw [beq_eq_false_iff_ne]; exact hzn
    go_quiet (fail)
    go_wp2
    go_ret
    exact ⟨rfl, below_drewN Hx.out _⟩
  · have hb' : (((n : Int)) == (n : Int)) = true := by simp
    subst hzn
    obtain ⟨pp, hpp⟩ : ∃ p, p = (posL z (scL z l r)).length := ⟨_, rfl⟩
    rw [← hpp] at hpn
    have Hpp := Lib.hid hpp
    have hpz : pp ≤ z := by rw [hpp]; exact posL_len _ _
    clear hpp
    go_enter Tryz.func28, Tryz.ntmps28
    go_wp2
    have hb3 : ((pp : Int) == (z : Int)) = false := by rw [beq_eq_false_iff_ne]; omega
    first
      | (go_region_held3 (fun w' => w'.cell? ⟨w.heap.size, 0, none⟩ = some (.int .i64 z) ∧ w'.cell? ⟨w.heap.size, 1, none⟩ = some (.slice A k c) ∧ w'.cell? ⟨w.heap.size + 1, 0, none⟩ = some (.int .i64 z) ∧ w'.cell? ⟨w.heap.size + 1, 1, none⟩ = some (.slice A' k' c'))
          (first
            | with_reducible exact ⟨(Ha.out.extD hx1).c0, (Ha.out.extD hx1).c1, (Hb.out.extD hx1).c0, (Hb.out.extD hx1).c1⟩
            | (go_keep; done)
            | (refine ⟨?_, ?_, ?_, ?_⟩ <;> (go_keep; done)))
          (first
            | (go_at_call 44; refine (sumR_c z l r _ _ _ Hv.out.drew Hu.out.drew (by omega) H1.out.2.2 H2.out.2.2 (by rw [← Hk.out]; exact hlen1) (by rw [← Hk'.out]; exact hlen2)).mono ?_; rintro e w1 ⟨v1, rfl, ho1, hx1⟩; obtain ⟨A1, c1, hv1, _, _⟩ := ho1.slice; rw [← Hpp.out] at hv1; subst hv1; have hfl := fld1 (z : Int) A1 pp c1)))
      | fail
    all_goals
      go_wp2
      go_ret
      exact ⟨rfl, Hx.out.tr (Ext.ofD hx1)⟩
theorem tilesWith_c (n : Nat) (l r : List Int) (v u : Value) (w : World) (hv : Ints w v l) (hu : Ints w u r) (h1 : RhyOk n l) (h2 : RhyOk n r) : Calls Tryz.prog 28 #[.agg #[.int .i64 n, v], .agg #[.int .i64 n, u]] w (fun e w' => e = .returned (.bool (tilB n l r)) ∧ Ext w w') := by
  cases e : tilB n l r with
  | true => exact tilesWith_t n l r v u w hv hu (tilB_ok h1 h2 e)
  | false => exact tilesWith_f n l r v u w hv hu h1 h2 e
def tigB (n m : Int) (l r : List Int) : Bool := canB n m l r && tilB n.toNat l r
set_option maxRecDepth 100000 in
set_option maxHeartbeats 1000000 in
theorem isTight_c (n m : Int) (l r : List Int) (v u : Value) (w : World) (hv : Ints w v l) (hu : Ints w u r) : Calls Tryz.prog 10 #[.agg #[.int .i64 n, v, .int .i64 m, u]] w (fun e w' => e = .returned (.bool (tigB n m l r)) ∧ Ext w w') := by
  obtain ⟨A, c, hve, _, _⟩ := hv.form0
  obtain ⟨A', c', hue, _, _⟩ := hu.form0
  obtain ⟨k, hk⟩ : ∃ k, k = l.length := ⟨_, rfl⟩
  obtain ⟨k', hk'⟩ : ∃ k', k' = r.length := ⟨_, rfl⟩
  rw [← hk] at hve
  rw [← hk'] at hue
  subst hve
  subst hue
  have hx := one_box w (.cells #[.int .i64 n, .slice A k c, .int .i64 m, .slice A' k' c'] 29)
  have ha := CVar.new (T := 29) w n (.slice A k c) m (.slice A' k' c')
  have Hk := Lib.hid hk
  have Hk' := Lib.hid hk'
  have Hv := Lib.hid (hv.ext hx)
  have Hu := Lib.hid (hu.ext hx)
  have Hx := Lib.hid hx
  have Ca := Lib.hid ha
  clear hv hu hx hk hk' ha
  have hc0 := Ca.out.c0
  have hc1 := Ca.out.c1
  have hc2 := Ca.out.c2
  have hc3 := Ca.out.c3
  by_cases hs : canOk n m l r
  · obtain ⟨nn, rfl, hn1, hn24, _, _⟩ := hs.1.1.nat
    have hnm := hs.1.2.2
    subst hnm
    have H1 := Lib.hid hs.1.1
    have H2 := Lib.hid hs.1.2.1
    have Hs := Lib.hid hs
    obtain ⟨bb, hbb⟩ : ∃ b, b = tilB nn l r := ⟨_, rfl⟩
    have HB : Hid (tilB nn l r = bb) := hbb.symm
    have HT : Hid (tigB nn nn l r = bb) := by unfold Hid tigB; rw [canB_t hs, hbb]; simp
    clear hs hbb
    cases bb
    all_goals
      go_enter Tryz.func10, Tryz.ntmps10
      go_wp2_with (first | (go_at_call 9; refine (canonOk_c (nn : Int) (nn : Int) l r _ _ _ Hv.out Hu.out).mono ?_; rintro e w2 ⟨b2, rfl, hb2, hx2⟩; (obtain rfl := hb2.2 Hs.out; clear hb2; have hd0 := (Ca.out.ext hx2).c0; have hd1 := (Ca.out.ext hx2).c1; have hd2 := (Ca.out.ext hx2).c2; have hd3 := (Ca.out.ext hx2).c3)) | (go_at_call 28; refine (tilesWith_c nn l r _ _ _ (Hv.out.ext hx2) (Hu.out.ext hx2) H1.out H2.out).mono ?_; rintro e w3 ⟨rfl, hx3⟩; rw [HB.out]))
      go_ret
      exact ⟨by rw [HT.out]; rfl, Hx.out.tr (hx2.tr hx3)⟩
  · have Hs := Lib.hid hs
    have HT : Hid (tigB n m l r = false) := by unfold Hid tigB; rw [canB_f hs]; rfl
    clear hs
    go_enter Tryz.func10, Tryz.ntmps10
    go_wp2_with (first | (go_at_call 9; refine (canonOk_c n m l r _ _ _ Hv.out Hu.out).mono ?_; rintro e w2 ⟨b2, rfl, hb2, hx2⟩; (obtain rfl := bool_f hb2 Hs.out; clear hb2)))
    go_ret
    exact ⟨by rw [HT.out]; rfl, Hx.out.tr hx2⟩
/-- how many of the first j counts are more than one -/
def cluN (a : List Int) (j : Nat) : Nat := ((a.take j).filter fun x => decide (1 < x)).length
theorem cluN_t {a : List Int} {j : Nat} {x : Int} (h : a[j]? = some x) (hx : 1 < x) : cluN a (j + 1) = cluN a j + 1 := by
  unfold cluN; rw [take_succ h, List.filter_append]; simp [hx]
theorem cluN_f {a : List Int} {j : Nat} {x : Int} (h : a[j]? = some x) (hx : ¬ 1 < x) : cluN a (j + 1) = cluN a j := by
  unfold cluN; rw [take_succ h, List.filter_append]; simp [hx]
theorem cluN_le (a : List Int) (j : Nat) : cluN a j ≤ j := by
  unfold cluN
  exact Nat.le_trans (List.length_filter_le _ _) (List.length_take_le _ _)
def cluI (n : Nat) (l r : List Int) : Nat := cluN (scL n l r) n
set_option maxRecDepth 100000 in
set_option maxHeartbeats 1000000 in
theorem countClashes_t (n : Nat) (l r : List Int) (v u : Value) (w : World) (hv : Ints w v l) (hu : Ints w u r) (h : canOk n n l r) : Calls Tryz.prog 11 #[.agg #[.int .i64 n, v, .int .i64 n, u]] w (RI (cluI n l r) w) := by
  have Hs := Lib.hid h
  have hn := h.1.1.1
  have hl24 := h.1.1.len
  have hr24 := h.1.2.1.len
  have HL := Lib.hid h.1.1.2.2
  have HR := Lib.hid h.1.2.1.2.2
  have Hl24 := Lib.hid hl24
  have Hr24 := Lib.hid hr24
  have hlen : (scL n l r).length = n := (few_scL n l r hl24 hr24).len
  have Hlen := Lib.hid hlen
  clear h hl24 hr24 hlen
  obtain ⟨A, c, hve, _, _⟩ := hv.form0
  obtain ⟨A', c', hue, _, _⟩ := hu.form0
  obtain ⟨k, hk⟩ : ∃ k, k = l.length := ⟨_, rfl⟩
  obtain ⟨k', hk'⟩ : ∃ k', k' = r.length := ⟨_, rfl⟩
  rw [← hk] at hve
  rw [← hk'] at hue
  subst hve
  subst hue
  have hx := one_box w (.cells #[.int .i64 (n : Int), .slice A k c, .int .i64 (n : Int), .slice A' k' c'] 29)
  have ha := CVar.new (T := 29) w (n : Int) (.slice A k c) (n : Int) (.slice A' k' c')
  have Hk := Lib.hid hk
  have Hk' := Lib.hid hk'
  have Hv := Lib.hid (hv.ext hx)
  have Hu := Lib.hid (hu.ext hx)
  have Hx := Lib.hid hx
  have Ca := Lib.hid ha
  clear hv hu hx hk hk' ha
  have hc0 := Ca.out.c0
  have hc1 := Ca.out.c1
  have hc2 := Ca.out.c2
  have hc3 := Ca.out.c3
  go_enter Tryz.func11, Tryz.ntmps11
  go_wp2_with (first | (go_at_call 9; refine (canonOk_c (n : Int) (n : Int) l r _ _ _ Hv.out Hu.out).mono ?_; rintro e w2 ⟨b2, rfl, hb2, hx2⟩; (obtain rfl := hb2.2 Hs.out; clear hb2; have hd0 := (Ca.out.ext hx2).c0; have hd1 := (Ca.out.ext hx2).c1; have hd2 := (Ca.out.ext hx2).c2; have hd3 := (Ca.out.ext hx2).c3)) | (go_at_call 29; refine (sumCounts_c n l r _ _ _ (Hv.out.ext hx2) (Hu.out.ext hx2) (by omega) HL.out HR.out Hl24.out Hr24.out).mono ?_; rintro e w3 ⟨v3, rfl, ho3, hx3⟩; obtain ⟨g3, c3, hv3, _, _, _, hcell, _⟩ := ho3.shape (by rw [Hlen.out]; omega); rw [Hlen.out] at hv3; subst hv3; have Hcell := Lib.hid hcell; clear hcell))
  have HX3 := Lib.hid (Hx.out.tr (hx2.tr hx3))
  clear hc0 hc1 hc2 hc3 hd0 hd1 hd2 hd3
  go_loop [3, 15] (fun s i => ∃ j : Nat, j ≤ n ∧ i = .int .i64 j ∧ s = .int .i64 (cluN (scL n l r) j : Nat)) (fun _ i => n - (intOf i).toNat)
  case atStart => exact ⟨0, Nat.zero_le _, rfl, by simp [cluN]⟩
  case round =>
    obtain ⟨j, hj, rfl, rfl⟩ := hrel
    have hle := cluN_le (scL n l r) j
    by_cases hjn : j < n
    · have hx := get_of_lt (l := scL n l r) (k := j) (by rw [Hlen.out]; exact hjn)
      have hc := Hcell.out j _ hx
      have hji : (j : Int) < (n : Int) := by omega
      obtain ⟨x, hxe⟩ : ∃ x, x = (scL n l r).getD j 0 := ⟨_, rfl⟩
      rw [← hxe] at hc hx
      by_cases h1 : 1 < x
      · have Hn := Lib.hid (cluN_t hx h1)
        clear hx hxe
        go_wp2
        go_round
        case rel => exact ⟨j + 1, by omega, by go_num, by rw [Hn.out]; go_num⟩
        case measure => simp [intOf]; omega
      · have Hn := Lib.hid (cluN_f hx h1)
        clear hx hxe
        go_wp2
        go_round
        case rel => exact ⟨j + 1, by omega, by go_num, by rw [Hn.out]⟩
        case measure => simp [intOf]; omega
    · obtain rfl : j = n := by omega
      go_wp2
      go_ret
      exact ⟨rfl, HX3.out⟩
set_option maxRecDepth 100000 in
set_option maxHeartbeats 1000000 in
theorem voicesAtF_t (n : Nat) (l r : List Int) (t : Int) (v u : Value) (w : World) (hv : Ints w v l) (hu : Ints w u r) (h : canOk n n l r) (ht : 0 ≤ t ∧ t ≤ 1000) : Calls Tryz.prog 12 #[.agg #[.int .i64 n, v, .int .i64 n, u], .int .i64 t] w (RL (vsL n l r t) w) := by
  have Hs := Lib.hid h
  have hn := h.1.1.1
  have hr : r.length ≤ 24 ∧ ∀ x ∈ r, 0 ≤ x ∧ x ≤ 24 := ⟨h.1.2.1.len, fun x hx => by have := h.1.2.1.2.2 x hx; omega⟩
  have HR := Lib.hid hr
  clear h hr
  obtain ⟨A, c, hve, _, _⟩ := hv.form0
  obtain ⟨A', c', hue, _, _⟩ := hu.form0
  obtain ⟨k, hk⟩ : ∃ k, k = l.length := ⟨_, rfl⟩
  obtain ⟨k', hk'⟩ : ∃ k', k' = r.length := ⟨_, rfl⟩
  rw [← hk] at hve
  rw [← hk'] at hue
  subst hve
  subst hue
  have hx := one_box w (.cells #[.int .i64 (n : Int), .slice A k c, .int .i64 (n : Int), .slice A' k' c'] 29)
  have ha := CVar.new (T := 29) w (n : Int) (.slice A k c) (n : Int) (.slice A' k' c')
  have Hk := Lib.hid hk
  have Hk' := Lib.hid hk'
  have Hv := Lib.hid (hv.ext hx)
  have Hu := Lib.hid (hu.ext hx)
  have Hx := Lib.hid hx
  have Ca := Lib.hid ha
  clear hv hu hx hk hk' ha
  have hc0 := Ca.out.c0
  have hc1 := Ca.out.c1
  have hc2 := Ca.out.c2
  have hc3 := Ca.out.c3
  go_enter Tryz.func12, Tryz.ntmps12
  go_wp2_with (first | (go_at_call 9; refine (canonOk_c (n : Int) (n : Int) l r _ _ _ Hv.out Hu.out).mono ?_; rintro e w2 ⟨b2, rfl, hb2, hx2⟩; (obtain rfl := hb2.2 Hs.out; clear hb2; have hd0 := (Ca.out.ext hx2).c0; have hd1 := (Ca.out.ext hx2).c1; have hd2 := (Ca.out.ext hx2).c2; have hd3 := (Ca.out.ext hx2).c3)) | (go_at_call 30; refine (within_t _ ?_).mono ?_; (focus omega); rintro e w1 ⟨rfl, rfl⟩) | (go_at_call 26; refine (voicesAt_c n (n : Int) l r t _ _ _ (Hv.out.ext hx2) (Hu.out.ext hx2) (by omega) HR.out (by omega)).mono ?_; rintro e w3 ⟨v3, rfl, ho3, hx3⟩))
  go_ret
  exact ⟨_, rfl, ho3.base (by have := (Hx.out.tr hx2).size; exact this), Hx.out.tr (hx2.tr hx3)⟩
theorem hasBeat_t (n : Nat) (l : List Int) (t : Int) (v : Value) (w : World) (hv : Ints w v l) (h : RhyOk n l) (hin : t % (n : Int) ∈ l) : Calls Tryz.prog 15 #[.agg #[.int .i64 n, v], .int .i64 t] w (fun e w' => e = .returned (.bool true) ∧ Ext w w') := by
  have Hr := Lib.hid h
  have hn : 1 ≤ n ∧ n ≤ 1000 := by have := h.1; omega
  have Hin := Lib.hid hin
  clear h hin
  obtain ⟨A, c, hve, _, _⟩ := hv.form0
  obtain ⟨m, hm⟩ : ∃ m, m = l.length := ⟨_, rfl⟩
  rw [← hm] at hve
  subst hve
  have hx := one_box w (.cells #[.int .i64 (n : Int), .slice A m c] 25)
  have ha := RVar.new (T := 25) w (n : Int) (.slice A m c)
  have Hv := Lib.hid (hv.ext hx)
  have Hx := Lib.hid hx
  have Ra := Lib.hid ha
  clear hv hx hm ha
  have hc1 := Ra.out.c0
  have hc2 := Ra.out.c1
  go_enter Tryz.func15, Tryz.ntmps15
  go_wp2_with (first | (go_at_call 31; refine (rhythmOk_c (n : Int) l _ _ Hv.out).mono ?_; rintro e w2 ⟨b2, rfl, hb2, hx2⟩; (obtain rfl := hb2.2 Hr.out; clear hb2; have hd1 := (Ra.out.ext hx2).c0; have hd2 := (Ra.out.ext hx2).c1)) | (go_at_call 32; refine (has_c n l t _ _ (Hv.out.ext hx2) hn).mono ?_; rintro e w3 ⟨b3, rfl, hb3, hx3⟩; (obtain rfl := hb3.2 Hin.out; clear hb3)))
  go_ret
  exact ⟨rfl, Hx.out.tr (hx2.tr hx3)⟩
theorem formatRhythmI_t (n : Nat) (l : List Int) (v : Value) (w : World) (hv : Ints w v l) (h : RhyOk n l) : Calls Tryz.prog 18 #[.agg #[.int .i64 n, v]] w (RStr (strOfNums (txU n l)) w) := by
  obtain ⟨nn, hnn, hn1, hn24, hlen, hmem⟩ := h.nat
  obtain rfl : nn = n := by omega
  have Hr := Lib.hid h
  have Hm := Lib.hid hmem
  have Hlen := Lib.hid hlen
  clear h hmem hlen hnn
  obtain ⟨A, c, hve, _, _⟩ := hv.form0
  obtain ⟨m, hm⟩ : ∃ m, m = l.length := ⟨_, rfl⟩
  rw [← hm] at hve
  subst hve
  have hx := one_box w (.cells #[.int .i64 (nn : Int), .slice A m c] 25)
  have ha := RVar.new (T := 25) w (nn : Int) (.slice A m c)
  have Hv := Lib.hid (hv.ext hx)
  have Hx := Lib.hid hx
  have Ra := Lib.hid ha
  clear hv hx hm ha
  have hc1 := Ra.out.c0
  have hc2 := Ra.out.c1
  go_enter Tryz.func18, Tryz.ntmps18
  go_wp2_with (first | (go_at_call 31; refine (rhythmOk_c (nn : Int) l _ _ Hv.out).mono ?_; rintro e w2 ⟨b2, rfl, hb2, hx2⟩; (obtain rfl := hb2.2 Hr.out; clear hb2; have hd1 := (Ra.out.ext hx2).c0; have hd2 := (Ra.out.ext hx2).c1)) | (go_at_call 33; refine (text_c nn l _ _ (Hv.out.ext hx2) ⟨hn1, hn24⟩ Hm.out Hlen.out).mono ?_; rintro e w3 ⟨rfl, hx3⟩))
  go_ret
  exact ⟨rfl, Hx.out.tr (hx2.tr hx3)⟩
end Go.Proofs.YtjecdmlojgmbeaaGreatDoor
