/- For every row of bytes the law FnLayers returns true: two even layers meet as often as their common divisor says, and their steps are the same backwards. Conditions: none beyond the row's own. -/
import Derived.Test.YtnbfcdanpplllaaPureA
import Derived.Test.YtnbfcdanpplllaaFpt
import Derived.Test.YtnbfcdanpplllaaFcur
import Derived.Test.YtnbfcdanpplllaaFequ
import Derived.Test.YtnbfcdanpplllaaGlueB
namespace Go.Proofs.Ytnbfcdanpplllaa
open Go.ChangeShapes Go.WideShapes Go.ChangeAt Go.RowKit
theorem rvar_two (w : World) (n m : Int) (v u : Value) {T : TypeId} : RVar ((w.alloc (.cells #[.int .i64 n, v] T)).alloc (.cells #[.int .i64 m, u] T)) w.heap.size n v := (RVar.new w n v).ext (one_box _ _)
theorem lyr_le {a n : Nat} (h : lyrB a n = true) : a ≤ n := by
  have h1 : lyrOk a n := by unfold lyrB at h; simpa using h
  obtain ⟨x, y, hx, hy, _, h2, _⟩ := lyr_pos h1
  omega
theorem meetL_le {a b n : Nat} {s : Int} (hc : cpI a b = (n : Int)) (hs : 0 ≤ s ∧ s ≤ 100) : (meetL a b s).length ≤ a := by
  by_cases h : meetOk a b s
  · rw [meet_t hc h]; exact meetN_len a b n s
  · rw [meet_f h]; exact Nat.zero_le _
attribute [local irreducible] polL polB stpI stepsL lyrB lyrN lyrL joinB joinN joinL tlB tlI tlL meetL firI cpI axUp layN
set_option maxRecDepth 100000 in
set_option maxHeartbeats 8000000 in
theorem lawLayers_c (l : List Int) (v : Value) (w : World) (hv : Byts w v l) : Calls Try.prog 3 #[v] w fun e w' => e = .returned (.bool true) ∧ Ext w w' := by
  obtain ⟨A, c0, hve⟩ := hv.form0
  have hlm : l.length ≤ 9223372036854775807 := by obtain ⟨_, c', _, h1, h2, _⟩ := hv; unfold maxLen at h2; omega
  obtain ⟨m, hm⟩ : ∃ m, m = l.length := ⟨_, rfl⟩
  rw [← hm] at hve hlm
  subst hve
  have Hv := Lib.hid hv
  clear hv hm
  by_cases hle : m ≤ 1048576
  rotate_left
  · have hle2 : (1048576 : Int) < (m : Int) := by omega
    go_enter Try.func3, Try.ntmps3
    go_wp2
    go_ret
    exact ⟨rfl, Below.refl _ _⟩
  have hle2 : ¬ (1048576 : Int) < (m : Int) := by omega
  go_enter Try.func3, Try.ntmps3
  have tok : True := trivial
  go_wp2_with (first | (go_at_call 4; clear tok; refine (makeNum_c l 0 _ _ Hv.out (by omega)).mono ?_; rintro e w1 ⟨x0, hlx0, rfl, hx1⟩; (obtain ⟨r0, hr0⟩ : ∃ r0, r0 = x0 % 8 := ⟨_, rfl⟩; have hri : (x0 : Int) % 8 = (r0 : Int) := (by omega); obtain ⟨a, haa⟩ : ∃ a, a = 1 + r0 := ⟨_, rfl⟩; have hai : 1 + (r0 : Int) = (a : Int) := (by omega); have ha8 : 1 ≤ a ∧ a ≤ 8 := (by omega); clear hr0 haa)))
  have tok : True := trivial
  go_wp2_with (first | (go_at_call 4; clear tok; refine (makeNum_c l 2 _ _ (Hv.out.ext hx1) (by omega)).mono ?_; rintro e w2 ⟨x1, hlx1, rfl, hx2⟩; (obtain ⟨r1, hr1⟩ : ∃ r1, r1 = x1 % 8 := ⟨_, rfl⟩; have hrj : (x1 : Int) % 8 = (r1 : Int) := (by omega); obtain ⟨b, hbb⟩ : ∃ b, b = 1 + r1 := ⟨_, rfl⟩; have hbi : 1 + (r1 : Int) = (b : Int) := (by omega); have hb8 : 1 ≤ b ∧ b ≤ 8 := (by omega); clear hr1 hbb)))
  have X2 : Hid (Ext w w2) := hx1.tr hx2
  clear hx1 hx2 hri hai hrj hbi hlm
  by_cases hc : cpN a b ≤ 24
  · obtain ⟨pl, L, h⟩ := lay_facts ha8 hb8 hc
    obtain ⟨n, hn⟩ : ∃ n, n = cpN a b := ⟨_, rfl⟩
    obtain ⟨g, hg⟩ : ∃ g, g = Nat.gcd a b := ⟨_, rfl⟩
    have Hg : Hid (((Nat.gcd a b : Nat) : Int) = (g : Int)) := by rw [hg]; rfl
    rw [← hn, ← hg] at h
    have H := Lib.hid h
    have hn1 := h.n1
    have hg1 := h.gpos
    have hq0 : (0 : Int) < (n : Int) := by omega
    obtain ⟨q, hq⟩ : ∃ q, q = a / g := ⟨_, rfl⟩
    have hqi : (a : Int) / (g : Int) = (q : Int) := by rw [hq, Int.natCast_ediv]
    have hqb : (q : Int) * (b : Int) = (n : Int) := by rw [← Int.natCast_mul, hq, h.div]
    have hqa : q ≤ a := by rw [hq]; exact Nat.div_le_self _ _
    have hn24 : (n : Int) ≤ 24 := by omega
    clear h hn hg hc hq
    have tok : True := trivial
    go_wp2_with (first | (go_at_call 5; refine (commonPulses_c _ _ _).mono ?_; rintro e w3 ⟨rfl, hx3⟩; rw [H.out.cp]) | (go_at_call 6; refine (polyRhythm_c a b _).mono ?_; rintro e w4 ⟨v4, rfl, ho4, hx4⟩; (rw [H.out.cp, H.out.polb]; rw [H.out.pol] at ho4; obtain ⟨A4, n4, c4, rfl⟩ := ho4.form; have R4 := Lib.hid (RVar.new (T := 27) w4 (n : Int) (.slice A4 n4 c4)); have O4 := Lib.hid (ho4.ext (one_box w4 (.cells #[.int .i64 (n : Int), .slice A4 n4 c4] 27))); have X4 := Lib.hid (hx3.tr (hx4.tr (one_box w4 (.cells #[.int .i64 (n : Int), .slice A4 n4 c4] 27)))); clear ho4 hx3 hx4)) | (go_at_call 7; refine (lawGcd_c _ _ (by omega) (by omega) _).mono ?_; rintro e wz ⟨rfl, rfl⟩; rw [Hg.out]) | (go_at_call 8; refine (polySteps_c a b _).mono ?_; rintro e w5 ⟨v5, rfl, ho5, hx5⟩; (rw [H.out.cp, H.out.pol, H.out.st] at ho5; obtain ⟨A5, c5, hv5, _, _⟩ := ho5.slice; obtain ⟨e, he⟩ : ∃ e, e = L.length := ⟨_, rfl⟩; rw [← he] at hv5; subst hv5; have He := Lib.hid he; have O5 := Lib.hid ho5; have R5 := Lib.hid (R4.out.ext hx5); have P5 := Lib.hid (O4.out.ext hx5); have X5 := Lib.hid (X4.out.tr hx5); clear ho5 he hx5)) | (go_at_call 4; clear tok; refine (makeNum_c l 4 _ _ ((Hv.out.ext X2.out).ext X5.out) (by omega)).mono ?_; rintro e w6 ⟨x2, hlx2, rfl, hx6⟩; (obtain ⟨s, hs⟩ : ∃ s, s = x2 % 50 := ⟨_, rfl⟩; have hsi : (x2 : Int) % 50 = (s : Int) := (by omega); have hs50 : s < 50 := (by omega); clear hs)))
    obtain ⟨f, hml, hm0, hfi, hfg, hfa, hfb⟩ := H.out.met s hs50
    have Hml := Lib.hid hml
    have Hm0 := Lib.hid hm0
    have Hfi := Lib.hid hfi
    have R6 := Lib.hid (R5.out.ext hx6)
    have O6 := Lib.hid (O5.out.ext hx6)
    have P6 := Lib.hid (P5.out.ext hx6)
    have X6 := Lib.hid (X5.out.tr hx6)
    clear hml hm0 hfi hx6 X5 O5 P5 R5 X4 O4 R4 hqi hqb hqa
    have tok : True := trivial
    go_wp2_with (first | (go_at_call 11; refine (meetingsOf_c a b (s : Int) _).mono ?_; rintro e w7 ⟨v7, rfl, ho7, hx7⟩; (obtain ⟨g7, c7, hv7, _, _, _, hcell7, _⟩ := ho7.shape (by rw [Hml.out]; omega); rw [Hml.out] at hv7; subst hv7; have C7 := Lib.hid (hcell7 0 _ Hm0.out); clear ho7 hcell7)) | (go_at_call 12; clear tok; refine (layerOf_c a n _).mono ?_; rintro e w8 ⟨v8, rfl, ho8, hx8⟩; (rw [H.out.lay.1, H.out.lay.2.1]; rw [H.out.lay.2.2] at ho8; obtain ⟨A8, n8, c8, rfl⟩ := ho8.form)))
    have R8 := Lib.hid (RVar.new (T := 27) w8 (n : Int) (.slice A8 n8 c8))
    have Hb8 := Lib.hid (one_box w8 (.cells #[.int .i64 (n : Int), .slice A8 n8 c8] 27))
    have O8 := Lib.hid (ho8.ext Hb8.out)
    have X8 : Hid (Ext w6 _) := hx7.tr (hx8.tr Hb8.out)
    have C8 := Lib.hid ((hx8.tr Hb8.out).cell_of C7.out)
    clear ho8 hx7 hx8 C7
    have tok : True := trivial
    go_wp2_with (first | (go_at_call 12; clear tok; refine (layerOf_c b n _).mono ?_; rintro e w9 ⟨v9, rfl, ho9, hx9⟩; (rw [H.out.lby.1, H.out.lby.2.1]; rw [H.out.lby.2.2] at ho9; obtain ⟨A9, n9, c9, rfl⟩ := ho9.form; have R9 := Lib.hid (RVar.new (T := 27) w9 (n : Int) (.slice A9 n9 c9)); have Hb9 := Lib.hid (one_box w9 (.cells #[.int .i64 (n : Int), .slice A9 n9 c9] 27)); have O9 := Lib.hid (ho9.ext Hb9.out); have X9 : Hid (Ext w6 _) := X8.out.tr (hx9.tr Hb9.out); have C9 := Lib.hid ((hx9.tr Hb9.out).cell_of C8.out); have S8 := Lib.hid ((R8.out.ext hx9).ext Hb9.out); have Q8 := Lib.hid ((O8.out.ext hx9).ext Hb9.out); have hd1 := S8.out.c0; have hd2 := S8.out.c1; have hd3 := R9.out.c0; have hd4 := R9.out.c1; clear ho9 hx9)) | (go_at_call 13; refine (joinRhythms_c (n : Int) (n : Int) (layN a n a) (layN b n b) _ _ _ Q8.out.ints O9.out.ints).mono ?_; rintro e w10 ⟨v10, rfl, ho10, hx10⟩; (rw [H.out.joi.1, H.out.joi.2.1]; rw [H.out.joi.2.2] at ho10; obtain ⟨A10, n10, c10, rfl⟩ := ho10.form; have R10 := Lib.hid (RVar.new (T := 27) w10 (n : Int) (.slice A10 n10 c10)); have Hb10 := Lib.hid (one_box w10 (.cells #[.int .i64 (n : Int), .slice A10 n10 c10] 27)); have O10 := Lib.hid (ho10.ext Hb10.out); have X10 : Hid (Ext w6 _) := X9.out.tr (hx10.tr Hb10.out); have C10 := Lib.hid ((hx10.tr Hb10.out).cell_of C9.out); clear ho10 hx10 hd1 hd2 hd3 hd4)) | (go_at_call 14; refine (threeLayers_c a b a _).mono ?_; rintro e w11 ⟨v11, rfl, ho11, hx11⟩; (rw [H.out.thr.1, H.out.thr.2.1]; rw [H.out.thr.2.2] at ho11; obtain ⟨A11, n11, c11, rfl⟩ := ho11.form; have R11 := Lib.hid (RVar.new (T := 27) w11 (n : Int) (.slice A11 n11 c11)); have Hb11 := Lib.hid (one_box w11 (.cells #[.int .i64 (n : Int), .slice A11 n11 c11] 27)); have O11 := Lib.hid (ho11.ext Hb11.out); have S10 := Lib.hid ((R10.out.ext hx11).ext Hb11.out); have Q10 := Lib.hid ((O10.out.ext hx11).ext Hb11.out); have X11 : Hid (Ext w6 _) := X10.out.tr (hx11.tr Hb11.out); have C11 := Lib.hid ((hx11.tr Hb11.out).cell_of C10.out); have R4 := Lib.hid (R6.out.ext X11.out); have O4 := Lib.hid (P6.out.ext X11.out); have O5 := Lib.hid (O6.out.ext X11.out); have hd1 := R4.out.c0; have hd2 := R4.out.c1; have hle3 : (a : Int) + (b : Int) - (g : Int) = (e : Int) := (by (have h1 := H.out.len; have h2 := He.out; omega)); clear ho11 hx11)))
    have Hple : Hid (((pl.length : Nat) : Int) = (e : Int)) := by rw [H.out.plen, ← He.out]; rfl
    obtain ⟨S, hS⟩ : ∃ S, S = ptS a b := ⟨_, rfl⟩
    have hSz : S.size = n := by rw [hS, H.out.txt, strOfNums_size, ptL_len]
    have HS : Hid (ptS a b = S) := hS.symm
    clear hS
    clear R6 O6 P6 R8 Hb8 O8 X8 C8 R9 Hb9 O9 X9 C9 S8 Q8 R10 Hb10 O10 X10 C10 Hb11
    have tok : True := trivial
    go_wp2_with (first | (go_at_call 15; refine (countBeats_t n pl _ _ O4.out.ints H.out.ok).mono ?_; rintro e w12 ⟨rfl, hx12⟩; (rw [Hple.out]; have R12 := Lib.hid (R4.out.ext hx12); have O12 := Lib.hid (O4.out.ext hx12); have T12 := Lib.hid (R11.out.ext hx12); have Q12 := Lib.hid (O11.out.ext hx12); have X12 := Lib.hid (X11.out.tr hx12); have C12 := Lib.hid (hx12.cell_of C11.out); have L12 := Lib.hid (O5.out.ext hx12); have hd3 := (S10.out.ext hx12).c0; have hd4 := (S10.out.ext hx12).c1; have hd5 := R12.out.c0; have hd6 := R12.out.c1; have J12 := Lib.hid (Q10.out.ext hx12); clear hx12 hd1 hd2)) | (go_at_call 16; clear tok; refine (lawRhythms_c (n : Int) (n : Int) pl pl _ _ _ J12.out.ints O12.out.ints).mono ?_; rintro e w13 ⟨b13, rfl, hb13, hx13⟩; (obtain rfl := hb13.2 ⟨rfl, rfl⟩; clear hb13; have hd7 := (T12.out.ext hx13).c0; have hd8 := (T12.out.ext hx13).c1; have hd9 := (R12.out.ext hx13).c0; have hd10 := (R12.out.ext hx13).c1; clear hd3 hd4 hd5 hd6)))
    have R13 := Lib.hid (R12.out.ext hx13)
    have O13 := Lib.hid (O12.out.ext hx13)
    have Q13 := Lib.hid (Q12.out.ext hx13)
    have X13 := Lib.hid (X12.out.tr hx13)
    have C13 := Lib.hid (hx13.cell_of C12.out)
    have L13 := Lib.hid (L12.out.ext hx13)
    clear hx13 R12 O12 Q12 X12 C12 L12 T12 J12 R4 O4 O5 S10 Q10 X11 C11 R11 O11
    have tok : True := trivial
    go_wp2_with (first | (go_at_call 16; clear tok; refine (lawRhythms_c (n : Int) (n : Int) pl pl _ _ _ Q13.out.ints O13.out.ints).mono ?_; rintro e w14 ⟨b14, rfl, hb14, hx14⟩; (obtain rfl := hb14.2 ⟨rfl, rfl⟩; clear hb14 hd7 hd8 hd9 hd10)) | (go_at_call 9; refine (polyText_c a b _).mono ?_; rintro e w15 ⟨rfl, hx15⟩; rw [HS.out]))
    have HX := Lib.hid (hx14.tr hx15)
    have R15 := Lib.hid (R13.out.ext HX.out)
    have O15 := Lib.hid (O13.out.ext HX.out)
    have X15 := Lib.hid (X13.out.tr HX.out)
    have C15 := Lib.hid (HX.out.cell_of C13.out)
    have L15 := Lib.hid (L13.out.ext HX.out)
    clear hx14 hx15 HX R13 O13 Q13 X13 C13 L13
    have he16 : e ≤ 16 := by have h1 := H.out.len; have h2 := He.out; omega
    have he1 : 1 ≤ e := by
      have h1 := H.out.len
      have h2 := He.out
      by_cases h0 : e = 0
      · have h3 := H.out.met 0 (by omega)
        obtain ⟨_, h4, _⟩ := h3
        have h5 := meetL_le (a := a) (b := b) (s := ((0 : Nat) : Int)) (H.out.cp) (by omega)
        omega
      · omega
    obtain ⟨g5, c5', hA5, _, _, _, hcell5, _⟩ := L15.out.shape (by rw [← He.out]; exact he1)
    rw [← He.out] at hA5
    obtain ⟨rfl, rfl⟩ : A5 = some ⟨g5, 0, none⟩ ∧ c5 = c5' := by simp only [Value.slice.injEq] at hA5; exact ⟨hA5.1, hA5.2.2⟩
    have Hcell := Lib.hid hcell5
    clear hcell5 hA5
    have hgi : (1 : Int) ≤ (g : Int) := by omega
    have hai : (1 : Int) ≤ (a : Int) := by omega
    have hbi : (1 : Int) ≤ (b : Int) := by omega
    obtain ⟨ng, hng⟩ : ∃ ng, ng = n / g := ⟨_, rfl⟩
    obtain ⟨na, hna⟩ : ∃ na, na = n / a := ⟨_, rfl⟩
    obtain ⟨nb, hnb⟩ : ∃ nb, nb = n / b := ⟨_, rfl⟩
    have hngi : (n : Int) / (g : Int) = (ng : Int) := by rw [hng, Int.natCast_ediv]
    have hnai : (n : Int) / (a : Int) = (na : Int) := by rw [hna, Int.natCast_ediv]
    have hnbi : (n : Int) / (b : Int) = (nb : Int) := by rw [hnb, Int.natCast_ediv]
    have hla := lyr_le H.out.lay.1
    have hlb := lyr_le H.out.lby.1
    have hna1 : 1 ≤ na := by rw [hna]; exact (Nat.one_le_div_iff (by omega)).2 hla
    have hnb1 : 1 ≤ nb := by rw [hnb]; exact (Nat.one_le_div_iff (by omega)).2 hlb
    have hna2 : na ≤ n := by rw [hna]; exact Nat.div_le_self _ _
    have hnb2 : nb ≤ n := by rw [hnb]; exact Nat.div_le_self _ _
    have hng2 : ng ≤ n := by rw [hng]; exact Nat.div_le_self _ _
    rw [← hng] at hfg
    rw [← hna] at hfa
    rw [← hnb] at hfb
    have hfai : (f : Int) % (na : Int) = 0 := by omega
    have hfbi : ((f : Int) - (s : Int)).tmod (nb : Int) = 0 := by rw [Int.tmod_eq_emod]; rw [hfb]; simp; omega
    have Hfb := Lib.hid hfb
    clear hng hna hnb hfa hfb
    have Hsym := Lib.hid H.out.sym
    go_loop [181] (fun i => ∃ j : Nat, j ≤ e ∧ i = .int .i64 j) (fun i => e - (intOf i).toNat)
    case atStart => exact ⟨0, Nat.zero_le _, rfl⟩
    case round =>
      obtain ⟨j, hj, rfl⟩ := hrel
      by_cases hje : j < e
      · have hji : (j : Int) < (e : Int) := by omega
        obtain ⟨z, hz⟩ : ∃ z, z = e - 1 - j := ⟨_, rfl⟩
        have hzi : (e : Int) - 1 - (j : Int) = (z : Int) := by omega
        have hze : (z : Int) < (e : Int) := by omega
        have h1 := Hcell.out j _ (get_of_lt (by rw [← He.out]; exact hje))
        have h2 := Hcell.out z _ (get_of_lt (by rw [← He.out]; omega))
        have h3 := Hsym.out j (by rw [← He.out]; exact hje)
        rw [← He.out, ← hz] at h3
        rw [← h3] at h2
        obtain ⟨y, hy⟩ : ∃ y, y = L.getD j 0 := ⟨_, rfl⟩
        rw [← hy] at h1 h2
        clear h3 hy hz
        go_wp2
        go_round
        case rel => exact ⟨j + 1, by omega, by go_num⟩
        case measure => simp [intOf]; omega
      · obtain rfl : j = e := by omega
        have tok : True := trivial
        go_wp2_with (first | (go_at_call 10; clear tok; refine (firstMeeting_c a b (s : Int) _).mono ?_; rintro e w16 ⟨rfl, hx16⟩; (rw [Hfi.out]; have hC := hx16.cell_of C15.out)))
        have tok : True := trivial
        go_wp2_with (first | (go_at_call 10; clear tok; refine (firstMeeting_c a b 0 _).mono ?_; rintro e w17 ⟨rfl, hx17⟩; (rw [H.out.fir]; have R17 := Lib.hid ((R15.out.ext hx16).ext hx17); have O17 := Lib.hid ((O15.out.ext hx16).ext hx17); have hd1 := R17.out.c0; have hd2 := R17.out.c1)) | (go_at_call 17; refine (isMirrored_t n pl _ _ O17.out.ints H.out.ok H.out.axs).mono ?_; rintro e w18 ⟨rfl, hx18⟩))
        go_ret
        exact ⟨rfl, X2.out.tr (X6.out.tr (X15.out.tr (hx16.tr (hx17.tr hx18))))⟩
  · have H0 := Lib.hid (lay_none hc)
    obtain ⟨n, hn⟩ : ∃ n, n = cpN a b := ⟨_, rfl⟩
    obtain ⟨g, hg⟩ : ∃ g, g = Nat.gcd a b := ⟨_, rfl⟩
    have Hg : Hid (((Nat.gcd a b : Nat) : Int) = (g : Int)) := by rw [hg]; rfl
    have hg1 : 1 ≤ g := by rw [hg]; exact Nat.gcd_pos_of_pos_left _ (by omega)
    have hgi : (1 : Int) ≤ (g : Int) := by omega
    obtain ⟨q, hq⟩ : ∃ q, q = a / g := ⟨_, rfl⟩
    have hqi : (a : Int) / (g : Int) = (q : Int) := by rw [hq, Int.natCast_ediv]
    have hqb : (q : Int) * (b : Int) = (n : Int) := by rw [← Int.natCast_mul, hq, hn, hg]; rfl
    have hqa : q ≤ a := by rw [hq]; exact Nat.div_le_self _ _
    have hn24 : ¬ (n : Int) ≤ 24 := by rw [← hn] at hc; omega
    have hnle : n ≤ 1000000 := by rw [hn]; exact cpN_le (by omega) (by omega)
    have Hp := Lib.hid (pol_f H0.out)
    have Hs : Hid (stpI (cpI a b) (polL a b) = []) := by unfold Hid; rw [H0.out, (pol_f H0.out).2]; exact stpI_f not_ok0
    have Ht := Lib.hid (pt_f H0.out)
    have Hf : Hid (firI a b 0 = -1) := by unfold Hid firI; rw [meet_f (fun h => h.1 H0.out)]; rfl
    have He0 : Hid (strOfNums [] = ByteArray.empty) := by unfold Hid strOfNums; rfl
    clear hn hg hq hc
    have tok : True := trivial
    go_wp2_with (first | (go_at_call 5; refine (commonPulses_c _ _ _).mono ?_; rintro e w3 ⟨rfl, hx3⟩; rw [H0.out]) | (go_at_call 6; refine (polyRhythm_c a b _).mono ?_; rintro e w4 ⟨v4, rfl, ho4, hx4⟩; (rw [H0.out, Hp.out.1]; rw [Hp.out.2] at ho4; obtain ⟨A4, n4, c4, rfl⟩ := ho4.form)) | (go_at_call 7; refine (lawGcd_c _ _ (by omega) (by omega) _).mono ?_; rintro e wz ⟨rfl, rfl⟩; rw [Hg.out]) | (go_at_call 8; refine (polySteps_c a b _).mono ?_; rintro e w5 ⟨v5, rfl, ho5, hx5⟩; (rw [Hs.out] at ho5; obtain ⟨A5, c5, hv5, _, _⟩ := ho5.slice; subst hv5)) | (go_at_call 9; refine (polyText_c a b _).mono ?_; rintro e w6 ⟨rfl, hx6⟩; rw [Ht.out, He0.out]) | (go_at_call 10; refine (firstMeeting_c a b 0 _).mono ?_; rintro e w7 ⟨rfl, hx7⟩; rw [Hf.out]))
    go_ret
    exact ⟨rfl, X2.out.tr (hx3.tr (hx4.tr ((one_box w4 _).tr (hx5.tr (hx6.tr hx7)))))⟩
namespace fnLayersGlue
set_option maxRecDepth 100000 in
theorem lifted (os : Os) (started : os.Started) (H : Type) (enc : TypeId × Value → H) :
    ReturnsInHanded {} Try.checked os 3 .any (Rows.fnLayersSpec.pre6 enc Try.prog Try.f3 Rows.fnLayersRow.domain false) (Rows.fnLayersSpec.post enc Try.prog Try.f3 false true false false) := by
  refine returnsInHanded_of_change (C := Try.checked) own started (by kernel_rfl) Try.func3
    (ChangeSpec.witness6 (enc := enc) (C := Try.checked) false ⟨#[], #[.slice none 0 0], []⟩ 8 (by kernel_rfl) (by kernel_rfl) (by kernel_rfl) (by kernel_rfl)) ?_
  intro W base args ds gs before hval0 hW hcnd _
  have hval : ∀ (j : Nat) t v, Try.f3.params[j]? = some t → args[j]? = some v → Value.okWide Try.prog W .any base t v := hval0
  have hW' := hW
  obtain ⟨p, q, hA0, hV, rfl, hfz, hnd⟩ := hW
  have hA : DataW.TrodAll enc Try.prog W 0 (fun _ => true) true Try.f3.params.toList args.toList ds p := hA0
  rw [Try.params3] at hA hval
  obtain ⟨v0, vs0, d0, ds0, p0, q0, hargs, rfl, rfl, h0, r0⟩ := trodAll_cons hA
  obtain ⟨rfl, rfl, rfl⟩ := trodAll_nil r0
  obtain rfl : args = #[v0] := by cases args; simp_all
  obtain ⟨rfl, rfl⟩ := trodVars_none hV
  have k0 := h0
  have lt0 : ∀ x ∈ p0, x.block < W.heap.size := by obtain ⟨m, hm⟩ := k0; exact DataW.trod_lt m _ _ _ hm
  obtain ⟨l0, w0⟩ := bytes_in (hval 0 22 v0 rfl rfl) h0
  clear hA0 hval0
  refine (lawLayers_c l0 v0 W w0).mono fun e W' ⟨he, bel⟩ => ?_
  subst he
  exact ⟨_, rfl, _, _, _, [], _, [], hW', trodAll_mk1 (shut_bool Try.underlying4 _), (trodAll_cons_mk (Below.trod laidOut (by kernel_rfl) (of_decide_eq_true (by kernel_rfl)) k0 bel lt0) trodAll_mk0), rfl, bel.frame _, fun h => by cases h⟩
theorem over : Rows.fnLayersRow.holds Try.pinned (OpenSpec.ofChange Rows.fnLayersSpec) :=
  OpenClaim.holds_of_wide 3 Try.f3 rfl rfl rfl rfl rfl rfl rfl ⟨rfl, rfl, rfl, rfl, rfl⟩ rfl rfl rfl rfl rfl (by kernel_rfl) Try.func3 (by kernel_rfl)
    (of_decide_eq_true (by kernel_rfl)) (by unfold Func.isWrapper; first | (rw [if_pos (by decide +kernel)]; kernel_rfl) | (rw [if_neg (by decide +kernel)]; exact ⟨rfl, rfl⟩))
    (fun os started H enc _ => lifted os started H enc)
end fnLayersGlue
/-- THE STATEMENT. -/
theorem fnLayers_holds : Rows.FnLayersSaid := fnLayersGlue.over
#print axioms fnLayers_holds
end Go.Proofs.Ytnbfcdanpplllaa
