/- For every row of bytes the law FnPhases returns true: phases come twice, forwards and backwards, and have in all as many beats as overlaps leave. Conditions: none beyond the row's own. -/
import Derived.Test.YtjkgioimefagoaaPureF
import Derived.Test.YtjkgioimefagoaaFmk
import Derived.Test.YtjkgioimefagoaaFhas
import Derived.Test.YtjkgioimefagoaaGlueB
namespace Go.Proofs.Ytjkgioimefagoaa
open Go.ChangeShapes Go.WideShapes Go.ChangeAt Go.RowKit
theorem mem_eqUp {n : Int} {cs : List Int} {j k : Nat} : (j : Int) ∈ eqUp n cs k ↔ j < k ∧ cs[j]? = some n := by
  unfold eqUp
  rw [List.mem_map]
  constructor
  · rintro ⟨i, hi, e⟩
    rw [List.mem_filter, List.mem_range] at hi
    obtain rfl : i = j := by omega
    exact ⟨hi.1, by simpa using hi.2⟩
  · intro h
    exact ⟨j, by rw [List.mem_filter, List.mem_range]; exact ⟨h.1, by simpa using h.2⟩, rfl⟩
attribute [local irreducible] pcL dfL flL phL rotL lowI highI proL pbI cntI pbB pbN phrLL sumI
set_option maxRecDepth 100000 in
set_option maxHeartbeats 8000000 in
theorem lawPhases_c (l : List Int) (v : Value) (w : World) (hv : Byts w v l) : Calls Try.prog 3 #[v] w fun e w' => e = .returned (.bool true) ∧ Ext w w' := by
  obtain ⟨A, c0, hve⟩ := hv.form0
  have hlm : l.length ≤ 9223372036854775807 := by obtain ⟨_, c', _, h1, h2, _⟩ := hv; unfold maxLen at h2; omega
  obtain ⟨m, hm⟩ : ∃ m, m = l.length := ⟨_, rfl⟩
  rw [← hm] at hve hlm
  subst hve
  have Hv := Lib.hid hv
  clear hv hm
  by_cases hle : m ≤ 1048576
  rotate_left
  · have hle2 : (1048576 : Int) < (m : Int) := by omega
    go_enter Try.func3, Try.ntmps3
    go_wp2
    go_ret
    exact ⟨rfl, Below.refl _ _⟩
  have hle2 : ¬ (1048576 : Int) < (m : Int) := by omega
  go_enter Try.func3, Try.ntmps3
  go_wp2_with (first | (go_at_call 4; refine (makeRhythm_c l 0 _ _ Hv.out (by omega)).mono ?_; rintro e w1 ⟨nw1, lw1, uw1, hlw1, hrw1, rfl, how1, hxw1⟩; (obtain ⟨n, hnn⟩ : ∃ n, n = nw1 := ⟨_, rfl⟩; obtain ⟨r, hrr⟩ : ∃ r, r = lw1 := ⟨_, rfl⟩; subst hnn; subst hrr; have Hr := Lib.hid hrw1; have hn1 : 1 ≤ n ∧ n ≤ 12 := (by have := hrw1.1; omega); obtain ⟨A1, c1, hv1, _, _⟩ := how1.slice; obtain ⟨k, hk⟩ : ∃ k, k = r.length := ⟨_, rfl⟩; rw [← hk] at hv1; subst hv1; have hkn : k ≤ n := (by rw [hk]; exact inc_len hrw1.2.1 hrw1.2.2); have Hk := Lib.hid hk; have R1 := Lib.hid (RVar.new (T := 25) w1 (n : Int) (.slice A1 k c1)); have O1 := Lib.hid (how1.ints.ext (one_box w1 (.cells #[.int .i64 (n : Int), .slice A1 k c1] 25))); have X1 := Lib.hid (hxw1.tr (one_box w1 (.cells #[.int .i64 (n : Int), .slice A1 k c1] 25))); have hc1 := R1.out.c0; have hc2 := R1.out.c1; clear hrw1 how1 hxw1 hk hlw1)) | (go_at_call 5; refine (phaseCounts_c (n : Int) r _ _ O1.out).mono ?_; rintro e w2 ⟨v2, rfl, ho2, hx2⟩; (have hlen2 := pcL_len_t Hr.out; obtain ⟨g2, c2, hv2, _, _, _, _, _⟩ := ho2.shape (by rw [hlen2]; omega); rw [hlen2] at hv2; subst hv2; have C2 := Lib.hid ho2; have R2 := Lib.hid (R1.out.ext hx2); have O2 := Lib.hid (O1.out.ext hx2); have X2 := Lib.hid (X1.out.tr hx2); clear hlen2 ho2 hx2; have hd1 := R2.out.c0; have hd2 := R2.out.c1)) | (go_at_call 6; refine (differencesOf_c n r _ _ O2.out Hr.out).mono ?_; rintro e w3 ⟨v3, rfl, ho3, hx3⟩; (have hlen3 : (dfL n r r).length = n := dfL_len hn1.1 r; obtain ⟨g3, c3, hv3, _, _, _, _, _⟩ := ho3.shape (by rw [hlen3]; omega); rw [hlen3] at hv3; subst hv3; have D3 := Lib.hid ho3; have R3 := Lib.hid (R2.out.ext hx3); have O3 := Lib.hid (O2.out.ext hx3); have X3 := Lib.hid (X2.out.tr hx3); have C3 := Lib.hid (C2.out.ext hx3); clear hlen3 ho3 hx3; have hd3 := R3.out.c0; have hd4 := R3.out.c1)))
  clear hc1 hc2 hd1 hd2 R1 O1 X1 R2 O2 X2 C2
  obtain ⟨s1, hs1⟩ : ∃ s, s = sumI (pcL n r) := ⟨_, rfl⟩
  have hsum := pc_sum Hr.out
  rw [← Hk.out, ← hs1] at hsum
  have Hs1 := Lib.hid hs1.symm
  obtain ⟨z1, hz1⟩ : ∃ z : Nat, z = 2 * k := ⟨_, rfl⟩
  have hz1i : 2 * (k : Int) = (z1 : Int) := by omega
  obtain ⟨z2, hz2⟩ : ∃ z : Nat, z = z1 * n := ⟨_, rfl⟩
  have hz2i : (z1 : Int) * (n : Int) = (z2 : Int) := by rw [hz2, Int.natCast_mul]
  obtain ⟨z3, hz3⟩ : ∃ z : Nat, z = k * k := ⟨_, rfl⟩
  have hz3i : (k : Int) * (k : Int) = (z3 : Int) := by rw [hz3, Int.natCast_mul]
  have hz2b : z2 ≤ 288 := by rw [hz2]; exact Nat.le_trans (Nat.mul_le_mul (show z1 ≤ 24 by omega) (show n ≤ 12 by omega)) (by decide)
  have hz3b : z3 ≤ 144 := by rw [hz3]; exact Nat.le_trans (Nat.mul_le_mul (show k ≤ 12 by omega) (show k ≤ 12 by omega)) (by decide)
  have hs1i : (z2 : Int) - (z3 : Int) = s1 := by rw [hsum, hz1i, hz2i, hz3i]
  have hbd : Hid (∀ x ∈ pcL n r, 0 ≤ x ∧ x ≤ 1000) := fun x hx => by
    obtain ⟨i, hi⟩ := List.getElem?_of_mem hx
    have hin : i < n := by have := (List.getElem?_eq_some_iff.1 hi).1; rw [pcL_len_t Hr.out] at this; exact this
    rw [pcL_get Hr.out hin] at hi
    have h2 := phL_len (n := n) r (i : Int)
    cases hi
    omega
  have hpl : Hid ((pcL n r).length ≤ 1000) := by unfold Hid; rw [pcL_len_t Hr.out]; omega
  have hcell0 := C3.out.cell (pcL_get Hr.out (show 0 < n by omega))
  rw [show phL n r ((0 : Nat) : Int) = r from ph_zero Hr.out (by simp), ← Hk.out] at hcell0
  have hn0 : (0 : Int) < (n : Int) := by omega
  clear hs1 hsum hz1 hz2 hz3
  go_wp2_with (first | (go_at_call 7; refine (lawSum_c (pcL n r) _ _ C3.out.ints hbd.out hpl.out).mono ?_; rintro e wz ⟨rfl, rfl⟩; rw [Hs1.out]) | (go_at_call 8; refine (fullPhases_c (n : Int) r _ _ O3.out).mono ?_; rintro e w5 ⟨v5, rfl, ho5, hx5⟩; (obtain ⟨A5, c5, hv5, _, _⟩ := ho5.slice; obtain ⟨e, he⟩ : ∃ e, e = (flL n r).length := ⟨_, rfl⟩; rw [← he] at hv5; subst hv5; clear he)))
  have R5 := Lib.hid (R3.out.ext hx5)
  have O5 := Lib.hid (O3.out.ext hx5)
  have X5 := Lib.hid (X3.out.tr hx5)
  have C5 := Lib.hid (C3.out.ext hx5)
  have D5 := Lib.hid (D3.out.ext hx5)
  have F5 := Lib.hid ho5
  clear hd3 hd4 hcell0 ho5 hx5 R3 O3 X3 C3 D3 hbd hpl Hs1
  go_loopw [9] (fun i wr => ∃ j : Nat, j ≤ n ∧ i = .int .i64 j ∧ Hid (Ext w5 wr)) (fun i _ => n - (intOf i).toNat)
  case atStart => exact ⟨0, Nat.zero_le _, rfl, Below.refl _ _⟩
  case round =>
    obtain ⟨j, hj, rfl, hh⟩ := hrel
    have Rr := Lib.hid (R5.out.ext hh.out)
    have Or := Lib.hid (O5.out.ext hh.out)
    have Cr := Lib.hid (C5.out.ext hh.out)
    have Dr := Lib.hid (D5.out.ext hh.out)
    have Fr := Lib.hid (F5.out.ext hh.out)
    have hc1 := Rr.out.c0
    have hc2 := Rr.out.c1
    by_cases hjn : j < n
    · have hji : (j : Int) < (n : Int) := by omega
      obtain ⟨y, hy⟩ : ∃ y, y = (n - j) % n := ⟨_, rfl⟩
      have hyn : y < n := by rw [hy]; exact Nat.mod_lt _ (by omega)
      have hyi : ((n : Int) - (j : Int)) % (n : Int) = (y : Int) := by rw [hy, show ((n : Int) - (j : Int)) = ((n - j : Nat) : Int) by omega, Int.natCast_emod]
      have hij : ((j : Int) + (y : Int)) % (n : Int) = 0 := by rw [← hyi, Int.add_emod_emod, show (j : Int) + ((n : Int) - (j : Int)) = (n : Int) by omega, Int.emod_self]
      have Hp := Lib.hid (phr_t (n := n) (l := r) (k := (j : Int)) ⟨Hr.out, by omega, by omega⟩)
      have Hq := Lib.hid (phr_t (n := n) (l := r) (k := (y : Int)) ⟨Hr.out, by omega, by omega⟩)
      have Hrot := Lib.hid (ph_rot hn1.1 Hr.out.2.2 hij)
      have hn1i : (1 : Int) ≤ (n : Int) := by omega
      have hn0z : ((n : Int) == 0) = false := by rw [beq_eq_false_iff_ne]; omega
      clear hy hij
      have tok : True := trivial
      go_wp2_with (first | (go_at_call 9; clear tok; refine (phaseRhythm_c (n : Int) r (j : Int) _ _ Or.out).mono ?_; rintro e w6 ⟨v6, rfl, ho6, hx6⟩; (rw [Hp.out.1, Hp.out.2.1]; rw [Hp.out.2.2] at ho6; obtain ⟨A6, m6, c6, rfl⟩ := ho6.form)))
      have Hb6 := Lib.hid (hx6.tr (one_box w6 (.cells #[.int .i64 (n : Int), .slice A6 m6 c6] 25)))
      have X6 := Lib.hid (RVar.new (T := 25) w6 (n : Int) (.slice A6 m6 c6))
      have O6 := Lib.hid (ho6.ints.ext (one_box w6 (.cells #[.int .i64 (n : Int), .slice A6 m6 c6] 25)))
      have R6 := Lib.hid (Rr.out.ext Hb6.out)
      have P6 := Lib.hid (Or.out.ext Hb6.out)
      have hd1 := R6.out.c0
      have hd2 := R6.out.c1
      clear ho6 hx6 hc1 hc2
      obtain ⟨W6, hW6⟩ : ∃ W, W = w6.alloc (.cells #[.int .i64 (n : Int), .slice A6 m6 c6] 25) := ⟨_, rfl⟩
      obtain ⟨b10, hb10⟩ : ∃ b, b = w6.heap.size := ⟨_, rfl⟩
      rw [← hb10, ← hW6] at X6
      rw [← hW6] at Hb6 O6 R6 P6 hd1 hd2
      rw [← hW6, ← hb10]
      clear hW6 hb10
      have hn2 := World.new_ne W6 _ hd1
      obtain ⟨q, hq⟩ : ∃ q, q = n - j := ⟨_, rfl⟩
      have hqi : (n : Int) - (j : Int) = (q : Int) := by omega
      rw [hqi] at hyi
      have hn00 : ¬ n = 0 := by omega
      clear hq
      have hqw : (IntKind.i64.wrap (q : Int)).tmod (n : Int) = (y : Int) := by rw [IntWalk.i64_in _ (by omega), Int.tmod_eq_emod_of_nonneg (by omega), hyi]
      go_wp2
      first
        | (go_region_held3 (fun w' => w'.cell? ⟨w1.heap.size, 0, none⟩ = some (.int .i64 n) ∧ w'.cell? ⟨w1.heap.size, 1, none⟩ = some (.slice A1 k c1))
            (first
              | with_reducible exact ⟨(R6.out.ext HX7).c0, (R6.out.ext HX7).c1⟩
              | with_reducible exact ⟨((R6.out.ext HX7).ext (one_box w7 _)).c0, ((R6.out.ext HX7).ext (one_box w7 _)).c1⟩
              | (apply And.intro <;> (go_keep; done))
              | (go_keep; done))
            (first
              | (go_at_call 9; refine (phaseRhythm_c (n : Int) r (y : Int) _ _ P6.out.drew).mono ?_; rintro e w7 ⟨v7, rfl, ho7, hx7⟩; rw [Hq.out.1, Hq.out.2.1]; rw [Hq.out.2.2] at ho7; obtain ⟨A7, m7, c7, rfl⟩ := ho7.form; have HX7 : Ext W6 w7 := Ext.ofD hx7; have hn3 := World.new_ne w7 _ (R6.out.ext HX7).c0)
              | (go_at_call 9; refine (phaseRhythm_c (n : Int) r (y : Int) _ _ (P6.out.alloc _).drew).mono ?_; rintro e w7 ⟨v7, rfl, ho7, hx7⟩; rw [Hq.out.1, Hq.out.2.1]; rw [Hq.out.2.2] at ho7; obtain ⟨A7, m7, c7, rfl⟩ := ho7.form; have HX7 : Ext W6 w7 := (one_box W6 _).tr (Ext.ofD hx7); have Nv := Lib.hid ((RVar.new (T := 25) W6 0 (.slice none 0 0)).extD hx7); have he0 := Nv.out.c0; have hf0 := Nv.out.f 0; have he1 := (Nv.out.set0 (m := (n : Int))).c1; have hf1 := (Nv.out.set0 (m := (n : Int))).f 1)))
        | fail
      all_goals
        first
          | (obtain ⟨W7, hW7⟩ : ∃ W, W = w7.alloc (.cells #[.int .i64 (n : Int), .slice A7 m7 c7] 25) := ⟨_, rfl⟩
             obtain ⟨b12, hb12⟩ : ∃ b, b = w7.heap.size := ⟨_, rfl⟩
             have X12 : Hid (RVar W7 b12 n (.slice A7 m7 c7)) := by rw [hW7, hb12]; exact RVar.new _ _ _
             have HX : Hid (Ext W6 W7) := by rw [hW7]; exact HX7.tr (one_box _ _)
             have O12 : Hid (Ints W7 (.slice A7 m7 c7) (phL n r y)) := by rw [hW7]; exact ho7.ints.ext (one_box _ _)
             rw [← hW7, ← hb12])
          | (obtain ⟨W7, hW7⟩ : ∃ W, W = (w7.setCell ⟨W6.heap.size, 0, none⟩ (.int .i64 (n : Int))).setCell ⟨W6.heap.size, 1, none⟩ (.slice A7 m7 c7) := ⟨_, rfl⟩
             obtain ⟨b12, hb12⟩ : ∃ b, b = W6.heap.size := ⟨_, rfl⟩
             have X12 : Hid (RVar W7 b12 n (.slice A7 m7 c7)) := by rw [hW7, hb12]; exact Nv.out.set0.set1
             have HX : Hid (Ext W6 W7) := by rw [hW7]; exact (HX7.setCell (p := ⟨W6.heap.size, 0, none⟩) (Nat.le_refl _) _).setCell (p := ⟨W6.heap.size, 1, none⟩) (Nat.le_refl _) _
             have O12 : Hid (Ints W7 (.slice A7 m7 c7) (phL n r y)) := by rw [hW7]; exact ((ho7.other (by simp [World.drew])).other (by simp [World.drew])).ints
             rw [← hW7, ← hb12]
             clear he0 hf0 he1 hf1 Nv)
      all_goals
        clear hW7 hb12 ho7 hx7 HX7 hd1 hd2 hn2
        try clear hn3
        have R7 := Lib.hid (R6.out.ext HX.out)
        have P7 := Lib.hid (P6.out.ext HX.out)
        have O7 := Lib.hid (O6.out.ext HX.out)
        have X7 := Lib.hid (X6.out.ext HX.out)
        have HXr := Lib.hid (Hb6.out.tr HX.out)
        have F7 := Lib.hid (Fr.out.ints.ext HXr.out)
        obtain ⟨cj, hcj⟩ : ∃ c : Nat, c = 2 * k - bothN n r (j : Nat) := ⟨_, rfl⟩
        obtain ⟨dj, hdj⟩ : ∃ d : Nat, d = bothN n r (j : Nat) := ⟨_, rfl⟩
        have hbo := both_le n r (j : Nat)
        rw [← hdj, ← Hk.out] at hbo
        rw [← hdj] at hcj
        have hgc : (pcL n r)[j]? = some (cj : Int) := by rw [pc_get Hr.out hjn, ← Hk.out, ← hdj, hcj]
        have hgd : (dfL n r r)[j]? = some (dj : Int) := by rw [get_of_lt (by rw [dfL_len hn1.1]; exact hjn), df_both Hr.out hjn, hdj]
        have s1 := R7.out.c0
        have s2 := R7.out.c1
        have s3 := X7.out.c0
        have s4 := X7.out.c1
        have s5 := X12.out.c0
        have s6 := X12.out.c1
        have s7 := HXr.out.cell_of (Cr.out.cell hgc)
        have s8 := HXr.out.cell_of (Dr.out.cell hgd)
        have hcd : (z1 : Int) - (dj : Int) = (cj : Int) := by omega
        have hw1 : IntKind.i64.wrap (z1 : Int) = (z1 : Int) := IntWalk.i64_in _ (by omega)
        have hw2 : IntKind.i64.wrap (cj : Int) = (cj : Int) := IntWalk.i64_in _ (by omega)
        have Hfl : Hid ((j : Int) ∈ flL n r ↔ (cj : Int) = (n : Int)) := by
          unfold Hid flL
          rw [mem_eqUp, pcL_len_t Hr.out, hgc]
          constructor
          · rintro ⟨_, h⟩; exact Option.some.inj h
          · intro h; exact ⟨hjn, by rw [h]⟩
        have Hok1 : Hid (RhyOk n (phL n r j)) := by unfold Hid phL; exact rh_ok hn1.1 (by omega) _
        have Hok2 : Hid (RhyOk n (phL n r y)) := by unfold Hid phL; exact rh_ok hn1.1 (by omega) _
        have hpb : 0 ≤ pbI n n r (phL n r j) ∧ pbI n n r (phL n r j) ≤ (j : Int) := by
          rw [pbI_t ⟨Hr.out, Hok1.out⟩, phsL_t Hr.out]
          have := firR_le (phsN n r) 0 j (phsN_get r hjn)
          simpa using this
        obtain ⟨pb, hpbe⟩ : ∃ z, z = pbI n n r (phL n r j) := ⟨_, rfl⟩
        rw [← hpbe] at hpb
        have Hpb := Lib.hid hpbe
        clear hcj hdj hbo hgc hgd hpbe
        have hcnb : ∃ q : Bool, ((cj : Int) == (n : Int)) = q ∧ Hid (∀ b : Bool, (b = true ↔ (j : Int) ∈ flL n r) → b = q) := by
          by_cases hcn : cj = n
          · exact ⟨true, by rw [hcn]; simp, fun b hb => hb.2 (Hfl.out.2 (by rw [hcn]))⟩
          · exact ⟨false, by rw [beq_eq_false_iff_ne]; omega, fun b hb => bool_f hb fun h => hcn (by have := Hfl.out.1 h; omega)⟩
        obtain ⟨bq, hcb, Hbq⟩ := hcnb
        have hbb : (bq != bq) = false := by simp
        all_goals
          have tok : True := trivial
          go_wp2
          have hg1 : decide ((j : Int) < pb) = false := by simpa using hpb.2
          have hg2 : decide (pb < 0) = false := by simpa using hpb.1
          first
            | (go_region_held3 (fun w' => w'.cell? ⟨w1.heap.size, 0, none⟩ = some (.int .i64 n) ∧ w'.cell? ⟨w1.heap.size, 1, none⟩ = some (.slice A1 k c1) ∧ w'.cell? ⟨b10, 0, none⟩ = some (.int .i64 n) ∧ w'.cell? ⟨b10, 1, none⟩ = some (.slice A6 m6 c6) ∧ w'.cell? ⟨b12, 0, none⟩ = some (.int .i64 n) ∧ w'.cell? ⟨b12, 1, none⟩ = some (.slice A7 m7 c7) ∧ w'.cell? ⟨g2, j, none⟩ = some (.int .i64 cj) ∧ w'.cell? ⟨g3, j, none⟩ = some (.int .i64 dj))
                (first
                  | with_reducible exact ⟨HX10.cell_of s1, HX10.cell_of s2, HX10.cell_of s3, HX10.cell_of s4, HX10.cell_of s5, HX10.cell_of s6, HX10.cell_of s7, HX10.cell_of s8⟩
                  | with_reducible exact ⟨HX9.cell_of s1, HX9.cell_of s2, HX9.cell_of s3, HX9.cell_of s4, HX9.cell_of s5, HX9.cell_of s6, HX9.cell_of s7, HX9.cell_of s8⟩
                  | with_reducible exact ⟨HX8.cell_of s1, HX8.cell_of s2, HX8.cell_of s3, HX8.cell_of s4, HX8.cell_of s5, HX8.cell_of s6, HX8.cell_of s7, HX8.cell_of s8⟩
                  | (go_keep; done))
                (first
                  | (go_at_call 10; refine (areRotations_t n (phL n r j) (phL n r y) _ _ _ O7.out.drew O12.out.drew Hok1.out Hok2.out ⟨y, hyn, Hrot.out⟩).mono ?_; rintro e w8 ⟨rfl, hx8⟩; have HX8 : Ext W7 w8 := Ext.ofD hx8)
                  | (go_at_call 11; refine (lawHas_c (flL n r) (j : Int) _ _ (F7.out.ext HX8)).mono ?_; rintro e wz ⟨bz, rfl, hbz, rfl⟩; obtain rfl := Hbq.out _ hbz; clear hbz)
                  | (go_at_call 12; clear tok; refine (phaseBetween_c n n r (phL n r j) _ _ _ (P7.out.ext HX8) (O7.out.ext HX8)).mono ?_; rintro e w9 ⟨rfl, hx9⟩; have HX9 : Ext W7 w9 := HX8.tr hx9; rw [← Hpb.out])
                  | (go_at_call 12; refine (phaseBetween_c n n r (phL n r j) _ _ _ (P7.out.ext HX9) (O7.out.ext HX9)).mono ?_; rintro e w10 ⟨rfl, hx10⟩; have HX10 : Ext W7 w10 := HX9.tr hx10; rw [← Hpb.out])))
            | fail
          all_goals
            have HXL := Lib.hid (hh.out.tr (HXr.out.tr HX10))
            clear HX8 HX9 HX10 hx8 hx9 hx10 s1 s2 s3 s4 s5 s6 s7 s8
            go_wp2
            go_roundw
            case rel => exact ⟨j + 1, by omega, by go_num, HXL.out⟩
            case measure => simp [intOf]; omega
    · obtain rfl : j = n := by omega
      have XW := Lib.hid (X5.out.tr hh.out)
      clear hh R5 O5 C5 D5 F5 X5 Fr Dr hz1i hz2i hz3i hz2b hz3b hs1i
      have hjz : j ≠ 0 := by omega
      have hplen := pcL_len_t Hr.out
      have Hlow : Hid (lowI j r = 0) := by
        unfold Hid
        rw [lowI_t Hr.out, low_zero ?_ _ (Nat.le_refl _)]
        · rfl
        · intro i hi
          rw [hplen] at hi
          rw [getD_of (pc_get Hr.out (i := 0) (by omega)), getD_of (pc_get Hr.out hi)]
          have h1 := both_le j r (i : Nat)
          have h2 := ph_card Hr.out ((0 : Nat) : Int)
          rw [ph_zero Hr.out (by simp)] at h2
          omega
      obtain ⟨h, hhe⟩ : ∃ h, h = highUp (pcL j r) j := ⟨_, rfl⟩
      have hsp := highUp_spec (pcL j r) j (by omega) (by rw [hplen]; exact Nat.le_refl _)
      rw [← hhe] at hsp
      have hhn := hsp.1
      have Hhigh : Hid (highI j r = (h : Int)) := by unfold Hid; rw [highI_t Hr.out, hplen, ← hhe]
      have hall := high_all (pcL j r) j
      rw [← hhe] at hall
      have Hfirst := Lib.hid hsp.2.2
      have Hall := Lib.hid hall
      have hcnt := cnt_le Hr.out
      obtain ⟨mm, hmm⟩ : ∃ z, z = cntI j r := ⟨_, rfl⟩
      rw [← hmm] at hcnt
      have Hmm := Lib.hid hmm
      have Hpro : Hid (proL j r 2 = proUp j r 2 (j + 1)) := pro_t (n := j) (s := 2) (l := r) ⟨Hr.out, by omega, by omega⟩
      clear hsp hall hmm hplen hhe
      go_wp2_with (first | (go_at_call 13; refine (thinnestPhase_c (j : Int) r _ _ Or.out).mono ?_; rintro e w11 ⟨rfl, hx11⟩; (rw [Hlow.out]; have R11 := Lib.hid (Rr.out.ext hx11); have O11 := Lib.hid (Or.out.ext hx11); have C11 := Lib.hid (Cr.out.ext hx11); have hd1 := R11.out.c0; have hd2 := R11.out.c1; clear hc1 hc2)) | (go_at_call 14; refine (thickestPhase_c (j : Int) r _ _ O11.out).mono ?_; rintro e w12 ⟨rfl, hx12⟩; (rw [Hhigh.out]; have R12 := Lib.hid (R11.out.ext hx12); have O12 := Lib.hid (O11.out.ext hx12); have C12 := Lib.hid (C11.out.ext hx12); have hd3 := R12.out.c0; have hd4 := R12.out.c1; clear hd1 hd2)) | (go_at_call 15; refine (processOf_c (j : Int) r 2 _ _ O12.out).mono ?_; rintro e w13 ⟨v13, us, rfl, hR, hx13⟩; (rw [Hpro.out] at hR; have R13 := Lib.hid (R12.out.ext hx13); have O13 := Lib.hid (O12.out.ext hx13); have C13 := Lib.hid (C12.out.ext hx13); have hul : us.length = (j + 1) * 2 := (by rw [hR.2.1, proUp_len]); obtain ⟨A13, c13, hv13, _, _⟩ := hR.form; obtain ⟨e, he⟩ : ∃ e, e = us.length := ⟨_, rfl⟩; rw [← he] at hv13 hul; subst hv13; have hn2 : 2 * (j : Int) + 2 = (e : Int) := (by omega); have Hul := Lib.hid hul; clear hul; have HR := Lib.hid hR; have He := Lib.hid he; have hd5 := R13.out.c0; have hd6 := R13.out.c1; clear hd3 hd4 hR he)) | (go_at_call 16; refine (countPhases_c (j : Int) r _ _ O13.out).mono ?_; rintro e w14 ⟨rfl, hx14⟩; rw [← Hmm.out]))
      have R14 := Lib.hid (R13.out.ext hx14)
      have O14 := Lib.hid (O13.out.ext hx14)
      have C14 := Lib.hid (C13.out.ext hx14)
      have H14 := Lib.hid (HR.out.ext hx14)
      have X14 := Lib.hid (XW.out.tr (hx11.tr (hx12.tr (hx13.tr hx14))))
      clear R11 R12 R13 O11 O12 O13 C11 C12 C13 HR hx11 hx12 hx13 hx14 hd5 hd6 XW Rr Or Cr
      go_loopw [18] (fun i wr => ∃ z : Nat, z ≤ j ∧ i = .int .i64 z ∧ Hid (Ext w14 wr)) (fun i _ => j - (intOf i).toNat)
      case atStart => exact ⟨0, Nat.zero_le _, rfl, Below.refl _ _⟩
      case round =>
        obtain ⟨z, hz, rfl, hh⟩ := hrel
        have Rr := Lib.hid (R14.out.ext hh.out)
        have Or := Lib.hid (O14.out.ext hh.out)
        have Cr := Lib.hid (C14.out.ext hh.out)
        have Hr2 := Lib.hid (H14.out.ext hh.out)
        by_cases hzj : z < j
        · have hzi : (z : Int) < (j : Int) := by omega
          have hhi : (h : Int) < (j : Int) := by omega
          have hgz := pc_get Hr.out hzj
          have hgh := pc_get Hr.out hhn
          have h1 := Hall.out z hzj
          have h2 := Hfirst.out z
          rw [getD_of hgz, getD_of hgh] at h1 h2
          obtain ⟨x, hx⟩ : ∃ x : Nat, x = 2 * r.length - bothN j r (z : Nat) := ⟨_, rfl⟩
          obtain ⟨y, hy⟩ : ∃ y : Nat, y = 2 * r.length - bothN j r (h : Nat) := ⟨_, rfl⟩
          rw [← hx] at hgz h1 h2
          rw [← hy] at hgh h1 h2
          have s1 := Cr.out.cell hgz
          have s2 := Cr.out.cell hgh
          have hzh : x = y → ¬ z < h := fun e hlt => (h2 hlt).1 (by rw [e])
          clear hgz hgh h2 hx hy
          by_cases hxy : x = y
          · have hnl := hzh hxy
            subst hxy
            have hg3 : decide ((z : Int) < (h : Int)) = false := by simp; omega
            clear hzh h1
            go_wp2
            go_quiet (fail)
            go_wp2
            go_roundw
            case rel => first | exact ⟨z + 1, by omega, by go_num, below_drewN hh.out _⟩ | ((repeat apply Exists.intro); exact ⟨⟨z + 1, by omega, by go_num, below_drewN hh.out _⟩, rfl⟩)
            case measure => simp [intOf]; omega
          · have hyx : ¬ y < x := by omega
            clear hzh h1
            go_wp2
            have hg1 : decide ((y : Int) < (x : Int)) = false := by simp; omega
            have hg2 : ((x : Int) == (y : Int)) = false := by rw [beq_eq_false_iff_ne]; omega
            have hg3 : decide (y < x) = false := by simp; omega
            have hg4 : (x == y) = false := by rw [beq_eq_false_iff_ne]; omega
            go_quiet (fail)
            go_wp2
            go_roundw
            case rel => first | exact ⟨z + 1, by omega, by go_num, below_drewN hh.out _⟩ | ((repeat apply Exists.intro); exact ⟨⟨z + 1, by omega, by go_num, below_drewN hh.out _⟩, rfl⟩)
            case measure => simp [intOf]; omega
        · obtain rfl : z = j := by omega
          obtain ⟨g20, cc20, n20, A20, m20, c20, l20, he20, hget20, hm20, t20, u20, ho20⟩ := Hr2.out.elem (k := 0 * 2 + 0) (by rw [← He.out]; omega)
          rw [pro_get z r (z + 1) 0 0 (by omega) (by omega)] at hget20
          cases hget20
          rw [← He.out] at he20
          simp only [Value.slice.injEq, Option.some.injEq, Addr.mk.injEq] at he20
          obtain ⟨g21, cc21, n21, A21, m21, c21, l21, he21, hget21, hm21, t21, u21, ho21⟩ := Hr2.out.elem (k := z * 2 + 1) (by rw [← He.out]; omega)
          rw [pro_get z r (z + 1) z 1 (by omega) (by omega)] at hget21
          cases hget21
          rw [← He.out] at he21
          simp only [Value.slice.injEq, Option.some.injEq, Addr.mk.injEq] at he21
          obtain ⟨g22, cc22, n22, A22, m22, c22, l22, he22, hget22, hm22, t22, u22, ho22⟩ := Hr2.out.elem (k := 1 * 2 + 0) (by rw [← He.out]; omega)
          rw [pro_get z r (z + 1) 1 0 (by omega) (by omega)] at hget22
          cases hget22
          rw [← He.out] at he22
          simp only [Value.slice.injEq, Option.some.injEq, Addr.mk.injEq] at he22
          obtain ⟨g23, cc23, n23, A23, m23, c23, l23, he23, hget23, hm23, t23, u23, ho23⟩ := Hr2.out.elem (k := 1 * 2 + 1) (by rw [← He.out]; omega)
          rw [pro_get z r (z + 1) 1 1 (by omega) (by omega)] at hget23
          cases hget23
          rw [← He.out] at he23
          simp only [Value.slice.injEq, Option.some.injEq, Addr.mk.injEq] at he23
          obtain ⟨hA20, _, hC20⟩ := he20
          cases hA20
          cases hC20
          obtain ⟨hA21, _, hC21⟩ := he21
          cases hA21
          cases hC21
          obtain ⟨hA22, _, hC22⟩ := he22
          cases hA22
          cases hC22
          obtain ⟨hA23, _, hC23⟩ := he23
          cases hA23
          cases hC23
          rw [show phL z r ((0 : Nat) : Int) = r from ph_zero Hr.out (by simp)] at ho20
          rw [show phL z r ((z : Nat) : Int) = r from ph_zero Hr.out (by simp)] at ho21
          have Q20 := Lib.hid ho20.ints
          have Q21 := Lib.hid ho21.ints
          have Q22 := Lib.hid ho22.ints
          have Q23 := Lib.hid ho23.ints
          obtain ⟨q0, hq0⟩ : ∃ q, q = z * 2 + 1 := ⟨_, rfl⟩
          rw [← hq0] at t21 u21
          have s1 := Rr.out.c0
          have s2 := Rr.out.c1
          have s3 : wr.cell? ⟨g20, 0, none⟩ = some (.int .i64 (z : Int)) := t20
          have s4 : wr.cell? ⟨g20, 1, none⟩ = some (.slice A20 m20 c20) := u20
          have s5 : wr.cell? ⟨g20, q0 * 2, none⟩ = some (.int .i64 (z : Int)) := t21
          have s6 : wr.cell? ⟨g20, q0 * 2 + 1, none⟩ = some (.slice A21 m21 c21) := u21
          have s7 : wr.cell? ⟨g20, 4, none⟩ = some (.int .i64 (z : Int)) := t22
          have s8 : wr.cell? ⟨g20, 5, none⟩ = some (.slice A22 m22 c22) := u22
          have s9 : wr.cell? ⟨g20, 6, none⟩ = some (.int .i64 (z : Int)) := t23
          have s10 : wr.cell? ⟨g20, 7, none⟩ = some (.slice A23 m23 c23) := u23
          clear hm20 hm21 hm22 hm23 ho20 ho21 ho22 ho23 t20 t21 t22 t23 u20 u21 u22 u23
          have tokA : True := trivial
          have tokB : True := trivial
          go_wp2
          have hul := Hul.out
          have hei : (e : Int) - 1 = (q0 : Int) := by omega
          have h0e : (0 : Int) < (e : Int) := by omega
          have h1e : (1 : Int) ≤ (e : Int) := by omega
          have h2e : (2 : Int) < (e : Int) := by omega
          have h3e : (3 : Int) < (e : Int) := by omega
          have hqe : (q0 : Int) < (e : Int) := by omega
          have h3m : (3 : Int) % (e : Int) = 3 := Int.emod_eq_of_lt (by omega) h3e
          have h3t : (3 : Int).tmod (e : Int) = 3 := by rw [Int.tmod_eq_emod_of_nonneg (by omega), h3m]
          have he0 : ¬ e = 0 := by omega
          have hew : IntKind.i64.wrap ((e : Int) - 1) = (q0 : Int) := by rw [hei]; exact IntWalk.i64_in _ (by omega)
          have hqw : IntKind.i64.wrap (q0 : Int) = (q0 : Int) := IntWalk.i64_in _ (by omega)
          have h3w : IntKind.i64.wrap (3 : Int) = 3 := by decide
          have n0e : 0 < e := by omega
          have n2e : 2 < e := by omega
          have n3e : 3 < e := by omega
          have nqe : q0 < e := by omega
          clear hq0 hul
          first
            | (go_region_held3 (fun w' => w'.cell? ⟨w1.heap.size, 0, none⟩ = some (.int .i64 z) ∧ w'.cell? ⟨w1.heap.size, 1, none⟩ = some (.slice A1 k c1) ∧ w'.cell? ⟨g20, 0, none⟩ = some (.int .i64 z) ∧ w'.cell? ⟨g20, 1, none⟩ = some (.slice A20 m20 c20) ∧ w'.cell? ⟨g20, q0 * 2, none⟩ = some (.int .i64 z) ∧ w'.cell? ⟨g20, q0 * 2 + 1, none⟩ = some (.slice A21 m21 c21) ∧ w'.cell? ⟨g20, 4, none⟩ = some (.int .i64 z) ∧ w'.cell? ⟨g20, 5, none⟩ = some (.slice A22 m22 c22) ∧ w'.cell? ⟨g20, 6, none⟩ = some (.int .i64 z) ∧ w'.cell? ⟨g20, 7, none⟩ = some (.slice A23 m23 c23))
                (first
                  | with_reducible exact ⟨HX17.cell_of s1, HX17.cell_of s2, HX17.cell_of s3, HX17.cell_of s4, HX17.cell_of s5, HX17.cell_of s6, HX17.cell_of s7, HX17.cell_of s8, HX17.cell_of s9, HX17.cell_of s10⟩
                  | with_reducible exact ⟨HX16.cell_of s1, HX16.cell_of s2, HX16.cell_of s3, HX16.cell_of s4, HX16.cell_of s5, HX16.cell_of s6, HX16.cell_of s7, HX16.cell_of s8, HX16.cell_of s9, HX16.cell_of s10⟩
                  | with_reducible exact ⟨HX15.cell_of s1, HX15.cell_of s2, HX15.cell_of s3, HX15.cell_of s4, HX15.cell_of s5, HX15.cell_of s6, HX15.cell_of s7, HX15.cell_of s8, HX15.cell_of s9, HX15.cell_of s10⟩
                  | (go_keep; done))
                (first
                  | (go_at_call 17; clear tokA; refine (lawRhythms_c (z : Int) z r r _ _ _ Q20.out.drew Or.out.drew).mono ?_; rintro e w15 ⟨b15, rfl, hb15, hx15⟩; obtain rfl := hb15.2 ⟨rfl, rfl⟩; clear hb15; have HX15 : Ext wr w15 := Ext.ofD hx15)
                  | (go_at_call 17; clear tokB; refine (lawRhythms_c (z : Int) z r r _ _ _ (Q21.out.ext HX15) (Or.out.ext HX15)).mono ?_; rintro e w16 ⟨b16, rfl, hb16, hx16⟩; obtain rfl := hb16.2 ⟨rfl, rfl⟩; clear hb16; have HX16 : Ext wr w16 := HX15.tr hx16)
                  | (go_at_call 17; refine (lawRhythms_c (z : Int) z (phL z r ((1 : Nat) : Int)) (phL z r ((1 : Nat) : Int)) _ _ _ (Q22.out.ext HX16) (Q23.out.ext HX16)).mono ?_; rintro e w17 ⟨b17, rfl, hb17, hx17⟩; obtain rfl := hb17.2 ⟨rfl, rfl⟩; clear hb17; have HX17 : Ext wr w17 := HX16.tr hx17)))
            | fail
          all_goals
            go_wp2
            go_ret
            exact ⟨rfl, X14.out.tr (hh.out.tr HX17)⟩
namespace fnPhasesGlue
set_option maxRecDepth 100000 in
theorem lifted (os : Os) (started : os.Started) (H : Type) (enc : TypeId × Value → H) :
    ReturnsInHanded {} Try.checked os 3 .any (Rows.fnPhasesSpec.pre6 enc Try.prog Try.f3 Rows.fnPhasesRow.domain false) (Rows.fnPhasesSpec.post enc Try.prog Try.f3 false true false false) := by
  refine returnsInHanded_of_change (C := Try.checked) own started (by kernel_rfl) Try.func3
    (ChangeSpec.witness6 (enc := enc) (C := Try.checked) false ⟨#[], #[.slice none 0 0], []⟩ 8 (by kernel_rfl) (by kernel_rfl) (by kernel_rfl) (by kernel_rfl)) ?_
  intro W base args ds gs before hval0 hW hcnd _
  have hval : ∀ (j : Nat) t v, Try.f3.params[j]? = some t → args[j]? = some v → Value.okWide Try.prog W .any base t v := hval0
  have hW' := hW
  obtain ⟨p, q, hA0, hV, rfl, hfz, hnd⟩ := hW
  have hA : DataW.TrodAll enc Try.prog W 0 (fun _ => true) true Try.f3.params.toList args.toList ds p := hA0
  rw [Try.params3] at hA hval
  obtain ⟨v0, vs0, d0, ds0, p0, q0, hargs, rfl, rfl, h0, r0⟩ := trodAll_cons hA
  obtain ⟨rfl, rfl, rfl⟩ := trodAll_nil r0
  obtain rfl : args = #[v0] := by cases args; simp_all
  obtain ⟨rfl, rfl⟩ := trodVars_none hV
  have k0 := h0
  have lt0 : ∀ x ∈ p0, x.block < W.heap.size := by obtain ⟨m, hm⟩ := k0; exact DataW.trod_lt m _ _ _ hm
  obtain ⟨l0, w0⟩ := bytes_in (hval 0 22 v0 rfl rfl) h0
  clear hA0 hval0
  refine (lawPhases_c l0 v0 W w0).mono fun e W' ⟨he, bel⟩ => ?_
  subst he
  exact ⟨_, rfl, _, _, _, [], _, [], hW', trodAll_mk1 (shut_bool Try.underlying4 _), (trodAll_cons_mk (Below.trod laidOut (by kernel_rfl) (of_decide_eq_true (by kernel_rfl)) k0 bel lt0) trodAll_mk0), rfl, bel.frame _, fun h => by cases h⟩
theorem over : Rows.fnPhasesRow.holds Try.pinned (OpenSpec.ofChange Rows.fnPhasesSpec) :=
  OpenClaim.holds_of_wide 3 Try.f3 rfl rfl rfl rfl rfl rfl rfl ⟨rfl, rfl, rfl, rfl, rfl⟩ rfl rfl rfl rfl rfl (by kernel_rfl) Try.func3 (by kernel_rfl)
    (of_decide_eq_true (by kernel_rfl)) (by unfold Func.isWrapper; first | (rw [if_pos (by decide +kernel)]; kernel_rfl) | (rw [if_neg (by decide +kernel)]; exact ⟨rfl, rfl⟩))
    (fun os started H enc _ => lifted os started H enc)
end fnPhasesGlue
/-- THE STATEMENT. -/
theorem fnPhases_holds : Rows.FnPhasesSaid := fnPhasesGlue.over
#print axioms fnPhases_holds
end Go.Proofs.Ytjkgioimefagoaa
