/- For every slice of strings the law FnExactReadCanon returns true: the program's ReadCanon returns what the reference's returns, in new memory, and leaves its argument. Conditions: none beyond the row's own; the tables of unicode/utf8 are tied to the program's text. -/
import Derived.Test.YtnlbcnlcdbemaaaDoorFrd
import Derived.Test.YtnlbcnlcdbemaaaDoorStr
import Derived.Test.YtnlbcnlcdbemaaaDoorLawC
import Derived.Test.YtnlbcnlcdbemaaaDoorLawT
import Derived.Test.YtnlbcnlcdbemaaaDoorGlueU
namespace Go.Proofs.YtnlbcnlcdbemaaaDoor
open Go.ChangeShapes Go.WideShapes Go.ChangeAt Go.RowKit
theorem rcI_len (ss : List ByteArray) : (rcI ss).length ≤ 1000000 := by
  unfold rcI prL
  split
  · split
    · rename_i h
      have h1 := pr_t h
      have h2 := psUp_len (rcHead ss) (rcHead ss).size
      omega
    · exact Nat.zero_le _
  · exact Nat.zero_le _
theorem rcE_len (ss : List ByteArray) : (rcE ss).length ≤ 1100000 := by
  unfold rcE
  cases h : rcO ss with
  | none => exact Nat.zero_le _
  | some es =>
    unfold rcO at h
    split at h
    · rename_i hg
      obtain ⟨h1, h2, h3, _, _⟩ := rd_ok h
      have h4 := (pr_t hg.1).2.2.2.1
      have h5 := inc_len (n := (rcHead ss).size) h2 h3
      simp only [Option.getD_some]
      omega
    · cases h
attribute [local irreducible] rcB rcN rcI rcE
set_option maxRecDepth 100000 in
set_option maxHeartbeats 8000000 in
theorem lawReadCanon_c (l0 : List ByteArray) (v'0 : Value) (w : World) (hv0 : Strs w v'0 l0) : Calls Tryd.prog 3 #[v'0] w fun e w' => e = .returned (.bool true) ∧ Ext w w' := by
  obtain ⟨A'0, c'0, hve0, hlc0, hcm0, hcell0⟩ := id hv0
  subst hve0
  have Hv0 := Lib.hid hv0
  clear hv0 hcell0
  by_cases hle0 : totN l0 l0.length ≤ 1048576
  rotate_left
  · have Hle0 := Lib.hid hle0
    clear hle0
    go_enter Tryd.func3, Tryd.ntmps3
    go_wp2_with (first | (go_at_call 4; refine (szStringS_f l0 _ _ Hv0.out Hle0.out).mono ?_; rintro e wz ⟨rfl, rfl⟩))
    go_ret
    exact ⟨rfl, Below.refl _ _⟩
  have hl20 : l0.length ≤ 1048576 := by have := totN_mono (ss := l0) (Nat.zero_le l0.length); rw [totN_zero] at this; omega
  have Hsz : Hid (∀ s ∈ l0, s.size ≤ 1048576) := fun s hs => by have := totN_size hs; omega
  have Hle0 := Lib.hid hle0
  have Hall : Hid (l0.length ≤ 1048576) := hl20
  obtain ⟨z0, hz0⟩ : ∃ z : Int, z = 1048576 - (totN l0 l0.length : Nat) := ⟨_, rfl⟩
  have hzn : ¬ z0 < 0 := by omega
  have Hz0 : Hid (1048576 - ((totN l0 l0.length : Nat) : Int) = z0) := hz0.symm
  obtain ⟨bb, hbb⟩ : ∃ b, b = rcB l0 := ⟨_, rfl⟩
  have Hbb : Hid (rcB l0 = bb) := hbb.symm
  have HlI : Hid ((rcI l0).length ≤ 1000000) := rcI_len l0
  have HlE : Hid ((rcE l0).length ≤ 1100000) := rcE_len l0
  have hlI := HlI.out
  have hlE := HlE.out
  clear hle0 hz0 hbb
  cases bb
  all_goals
    go_enter Tryd.func3, Tryd.ntmps3
    go_wp2_with (first | (go_at_call 4; refine (szStringS_t l0 _ _ Hv0.out Hle0.out).mono ?_; rintro e wz ⟨rfl, rfl⟩; rw [Hz0.out]))
    have tok : True := trivial
    go_wp2_with (first | (go_at_call 6; clear tok; refine (toStringS_c l0 _ _ (Hv0.out.ext (Below.refl w.heap.size w)) (by omega)).mono ?_; rintro e w1 ⟨v1, us1, rfl, ho1, hx1⟩))
    have tok : True := trivial
    go_wp2_with (first | (go_at_call 5; clear tok; refine (specReadCanon_c l0 _ _ _ _ ho1 Hall.out Hsz.out).mono ?_; rintro e w2 ⟨v2, u2, rfl, ho2, hp2, ha2, hx2⟩; rw [Hbb.out]; obtain ⟨A2, m2, c2, rfl⟩ := ho2.form; obtain ⟨A2', m2', c2', rfl⟩ := hp2.form; have hc3a := (CVar.new (T := 28) w2 (rcN l0) (.slice A2 m2 c2) (rcN l0) (.slice A2' m2' c2')).c0; have hc3b := (CVar.new (T := 28) w2 (rcN l0) (.slice A2 m2 c2) (rcN l0) (.slice A2' m2' c2')).c1; have hc3c := (CVar.new (T := 28) w2 (rcN l0) (.slice A2 m2 c2) (rcN l0) (.slice A2' m2' c2')).c2; have hc3d := (CVar.new (T := 28) w2 (rcN l0) (.slice A2 m2 c2) (rcN l0) (.slice A2' m2' c2')).c3))
    have X1 := Lib.hid (Ext.tr (Below.refl w.heap.size w) hx1)
    have X2 := Lib.hid (Ext.tr X1.out hx2)
    have X3 := Lib.hid (Ext.tr X2.out (one_box w2 (.cells #[.int .i64 (rcN l0), (.slice A2 m2 c2), .int .i64 (rcN l0), (.slice A2' m2' c2')] 28)))
    have tok : True := trivial
    go_wp2_with (first | (go_at_call 6; clear tok; refine (toStringS_c l0 _ _ (Hv0.out.ext X3.out) (by omega)).mono ?_; rintro e w4 ⟨v4, us4, rfl, ho4, hx4⟩; have V0_4 := Lib.hid (CVar.ext (CVar.new (T := 28) w2 (rcN l0) (.slice A2 m2 c2) (rcN l0) (.slice A2' m2' c2')) hx4); have hc5a := V0_4.out.c0; have hc5b := V0_4.out.c1; have hc5c := V0_4.out.c2; have hc5d := V0_4.out.c3))
    have tok : True := trivial
    go_wp2_with (first | (go_at_call 7; clear tok; refine (readCanon_c l0 _ _ _ _ ho4 Hall.out Hsz.out).mono ?_; rintro e w6 ⟨v6, u6, rfl, ho6, hp6, ha6, hx6⟩; rw [Hbb.out]; obtain ⟨A6, m6, c6, rfl⟩ := ho6.form; obtain ⟨A6', m6', c6', rfl⟩ := hp6.form; have V0_5 := Lib.hid (CVar.ext V0_4.out hx6); have V0_6 := Lib.hid (CVar.ext V0_5.out (one_box w6 (.cells #[.int .i64 (rcN l0), (.slice A6 m6 c6), .int .i64 (rcN l0), (.slice A6' m6' c6')] 28))); have hc7a := V0_6.out.c0; have hc7b := V0_6.out.c1; have hc7c := V0_6.out.c2; have hc7d := V0_6.out.c3; have hc8a := (CVar.new (T := 28) w6 (rcN l0) (.slice A6 m6 c6) (rcN l0) (.slice A6' m6' c6')).c0; have hc8b := (CVar.new (T := 28) w6 (rcN l0) (.slice A6 m6 c6) (rcN l0) (.slice A6' m6' c6')).c1; have hc8c := (CVar.new (T := 28) w6 (rcN l0) (.slice A6 m6 c6) (rcN l0) (.slice A6' m6' c6')).c2; have hc8d := (CVar.new (T := 28) w6 (rcN l0) (.slice A6 m6 c6) (rcN l0) (.slice A6' m6' c6')).c3))
    have K1_6 := Lib.hid (Own.ext ho6 (one_box w6 (.cells #[.int .i64 (rcN l0), (.slice A6 m6 c6), .int .i64 (rcN l0), (.slice A6' m6' c6')] 28)))
    have K2_6 := Lib.hid (Own.ext hp6 (one_box w6 (.cells #[.int .i64 (rcN l0), (.slice A6 m6 c6), .int .i64 (rcN l0), (.slice A6' m6' c6')] 28)))
    have K3_3 := Lib.hid (Own.ext ho2 (one_box w2 (.cells #[.int .i64 (rcN l0), (.slice A2 m2 c2), .int .i64 (rcN l0), (.slice A2' m2' c2')] 28)))
    have K3_4 := Lib.hid (Own.ext K3_3.out hx4)
    have K3_5 := Lib.hid (Own.ext K3_4.out hx6)
    have K3_6 := Lib.hid (Own.ext K3_5.out (one_box w6 (.cells #[.int .i64 (rcN l0), (.slice A6 m6 c6), .int .i64 (rcN l0), (.slice A6' m6' c6')] 28)))
    have K4_3 := Lib.hid (Own.ext hp2 (one_box w2 (.cells #[.int .i64 (rcN l0), (.slice A2 m2 c2), .int .i64 (rcN l0), (.slice A2' m2' c2')] 28)))
    have K4_4 := Lib.hid (Own.ext K4_3.out hx4)
    have K4_5 := Lib.hid (Own.ext K4_4.out hx6)
    have K4_6 := Lib.hid (Own.ext K4_5.out (one_box w6 (.cells #[.int .i64 (rcN l0), (.slice A6 m6 c6), .int .i64 (rcN l0), (.slice A6' m6' c6')] 28)))
    have tok : True := trivial
    go_wp2_with (first | (go_at_call 8; clear tok; refine (eqCanon_c (rcN l0) (rcN l0) (rcN l0) (rcN l0) (rcI l0) (rcE l0) (rcI l0) (rcE l0) _ _ _ _ _ (Own.ints K1_6.out) (Own.ints K2_6.out) (Own.ints K3_6.out) (Own.ints K4_6.out)).mono ?_; rintro e w9 ⟨b9, rfl, hb9, hx9⟩; obtain rfl := hb9.2 ⟨rfl, rfl, rfl, rfl⟩; clear hb9; have V0_7 := Lib.hid (CVar.ext V0_6.out hx9); have hc10a := V0_7.out.c0; have hc10b := V0_7.out.c1; have hc10c := V0_7.out.c2; have hc10d := V0_7.out.c3; have V5_7 := Lib.hid (CVar.ext (CVar.new (T := 28) w6 (rcN l0) (.slice A6 m6 c6) (rcN l0) (.slice A6' m6' c6')) hx9); have hc11a := V5_7.out.c0; have hc11b := V5_7.out.c1; have hc11c := V5_7.out.c2; have hc11d := V5_7.out.c3))
    have X4 := Lib.hid (Ext.tr X3.out hx4)
    have X5 := Lib.hid (Ext.tr X4.out hx6)
    have X6 := Lib.hid (Ext.tr X5.out (one_box w6 (.cells #[.int .i64 (rcN l0), (.slice A6 m6 c6), .int .i64 (rcN l0), (.slice A6' m6' c6')] 28)))
    have X7 := Lib.hid (Ext.tr X6.out hx9)
    have tok : True := trivial
    go_wp2_with (first | (go_at_call 6; clear tok; refine (toStringS_c l0 _ _ (Hv0.out.ext X7.out) (by omega)).mono ?_; rintro e w12 ⟨v12, us12, rfl, ho12, hx12⟩; have V0_8 := Lib.hid (CVar.ext V0_7.out hx12); have hc13a := V0_8.out.c0; have hc13b := V0_8.out.c1; have hc13c := V0_8.out.c2; have hc13d := V0_8.out.c3; have V5_8 := Lib.hid (CVar.ext V5_7.out hx12); have hc14a := V5_8.out.c0; have hc14b := V5_8.out.c1; have hc14c := V5_8.out.c2; have hc14d := V5_8.out.c3))
    have K6_5 := Lib.hid (Sss.ext ho4 hx6)
    have K6_6 := Lib.hid (Sss.ext K6_5.out (one_box w6 (.cells #[.int .i64 (rcN l0), (.slice A6 m6 c6), .int .i64 (rcN l0), (.slice A6' m6' c6')] 28)))
    have K6_7 := Lib.hid (Sss.ext K6_6.out hx9)
    have K6_8 := Lib.hid (Sss.ext K6_7.out hx12)
    have tok : True := trivial
    go_wp2_with (first | (go_at_call 9; clear tok; refine (eqStringS_c l0 l0 _ _ _ _ _ _ _ K6_8.out ho12 (by omega)).mono ?_; rintro e w15 ⟨b15, rfl, hb15, hx15⟩; obtain rfl := hb15.2 rfl; clear hb15; have V0_9 := Lib.hid (CVar.ext V0_8.out hx15); have hc16a := V0_9.out.c0; have hc16b := V0_9.out.c1; have hc16c := V0_9.out.c2; have hc16d := V0_9.out.c3; have V5_9 := Lib.hid (CVar.ext V5_8.out hx15); have hc17a := V5_9.out.c0; have hc17b := V5_9.out.c1; have hc17c := V5_9.out.c2; have hc17d := V5_9.out.c3))
    have K6_9 := Lib.hid (Sss.ext K6_8.out hx15)
    have tok : True := trivial
    go_wp2_with (first | (go_at_call 10; clear tok; refine (markStringS_c l0 1 _ _ _ _ K6_9.out (by omega) (by omega) (by omega)).mono ?_; rintro e w18 ⟨q18, us18, rfl, hq18, hl18, hmw18, hbw18, hgw18⟩; have V0_10 := Lib.hid (CVar.kept V0_9.out hgw18 (ne_s2 ho4 (Nat.lt_of_lt_of_le (CVar.new (T := 28) w2 (rcN l0) (.slice A2 m2 c2) (rcN l0) (.slice A2' m2' c2')).lt (Nat.le_refl _)))); have hc19a := V0_10.out.c0; have hc19b := V0_10.out.c1; have hc19c := V0_10.out.c2; have hc19d := V0_10.out.c3; have V5_10 := Lib.hid (CVar.kept V5_9.out hgw18 (ne_s1 ho4 (Nat.le_trans (Nat.le_refl _) hx6.size))); have hc20a := V5_10.out.c0; have hc20b := V5_10.out.c1; have hc20c := V5_10.out.c2; have hc20d := V5_10.out.c3))
    have K1_7 := Lib.hid (Own.ext K1_6.out hx9)
    have K1_8 := Lib.hid (Own.ext K1_7.out hx12)
    have K1_9 := Lib.hid (Own.ext K1_8.out hx15)
    have K1_10 := Lib.hid (Own.kept K1_9.out hgw18 (apart_so2 ho4 ho6))
    have K2_7 := Lib.hid (Own.ext K2_6.out hx9)
    have K2_8 := Lib.hid (Own.ext K2_7.out hx12)
    have K2_9 := Lib.hid (Own.ext K2_8.out hx15)
    have K2_10 := Lib.hid (Own.kept K2_9.out hgw18 (apart_so2 ho4 hp6))
    have K3_7 := Lib.hid (Own.ext K3_6.out hx9)
    have K3_8 := Lib.hid (Own.ext K3_7.out hx12)
    have K3_9 := Lib.hid (Own.ext K3_8.out hx15)
    have K3_10 := Lib.hid (Own.kept K3_9.out hgw18 (apart_so1 K3_3.out ho4))
    have K4_7 := Lib.hid (Own.ext K4_6.out hx9)
    have K4_8 := Lib.hid (Own.ext K4_7.out hx12)
    have K4_9 := Lib.hid (Own.ext K4_8.out hx15)
    have K4_10 := Lib.hid (Own.kept K4_9.out hgw18 (apart_so1 K4_3.out ho4))
    have tok : True := trivial
    go_wp2_with (first | (go_at_call 8; clear tok; refine (eqCanon_c (rcN l0) (rcN l0) (rcN l0) (rcN l0) (rcI l0) (rcE l0) (rcI l0) (rcE l0) _ _ _ _ _ (Own.ints K1_10.out) (Own.ints K2_10.out) (Own.ints K3_10.out) (Own.ints K4_10.out)).mono ?_; rintro e w21 ⟨b21, rfl, hb21, hx21⟩; obtain rfl := hb21.2 ⟨rfl, rfl, rfl, rfl⟩; clear hb21; have V0_11 := Lib.hid (CVar.ext V0_10.out hx21); have hc22a := V0_11.out.c0; have hc22b := V0_11.out.c1; have hc22c := V0_11.out.c2; have hc22d := V0_11.out.c3; have V5_11 := Lib.hid (CVar.ext V5_10.out hx21); have hc23a := V5_11.out.c0; have hc23b := V5_11.out.c1; have hc23c := V5_11.out.c2; have hc23d := V5_11.out.c3))
    have K1_11 := Lib.hid (Own.ext K1_10.out hx21)
    have K2_11 := Lib.hid (Own.ext K2_10.out hx21)
    have tok : True := trivial
    go_wp2_with (first | (go_at_call 11; clear tok; refine (markCanon_c (rcI l0) (rcE l0) (rcN l0) (rcN l0) 1 _ _ _ K1_11.out K2_11.out ha6 (by omega) (by omega) (by omega)).mono ?_; rintro e w24 ⟨q24, w24a, rfl, hq24, hl24, hm24a, hg24a, hm24, hg24⟩; have V0_12 := Lib.hid (CVar.kept V0_11.out hg24a (Own.ne_lt ho6 (Nat.lt_of_lt_of_le (CVar.new (T := 28) w2 (rcN l0) (.slice A2 m2 c2) (rcN l0) (.slice A2' m2' c2')).lt (Nat.le_trans (Nat.le_refl _) hx4.size)))); have V0_13 := Lib.hid (CVar.kept V0_12.out hg24 (Own.ne_lt hp6 (Nat.lt_of_lt_of_le (CVar.new (T := 28) w2 (rcN l0) (.slice A2 m2 c2) (rcN l0) (.slice A2' m2' c2')).lt (Nat.le_trans (Nat.le_refl _) hx4.size)))); have hc25a := V0_13.out.c0; have hc25b := V0_13.out.c1; have hc25c := V0_13.out.c2; have hc25d := V0_13.out.c3; have V5_12 := Lib.hid (CVar.kept V5_11.out hg24a (Own.ne_ge ho6 (Nat.le_refl _))); have V5_13 := Lib.hid (CVar.kept V5_12.out hg24 (Own.ne_ge hp6 (Nat.le_refl _))); have hc26a := V5_13.out.c0; have hc26b := V5_13.out.c1; have hc26c := V5_13.out.c2; have hc26d := V5_13.out.c3))
    have K1_13 := Lib.hid (Own.kept hm24a hg24 ha6)
    have tok : True := trivial
    go_wp2_with (first | (go_at_call 12; clear tok; refine (heldCanon_c ((rcI l0)).length ((rcE l0)).length (rcN l0) (rcN l0) 1 _ _ _ (Own.ints K1_13.out) (Own.ints hm24) (by omega) (by omega) (by omega)).mono ?_; rintro e w27 ⟨q27, rfl, hq27, hx27⟩; obtain rfl : q24 = q27 := hq24.out.trans hq27.out.symm; have V0_14 := Lib.hid (CVar.ext V0_13.out hx27); have hc28a := V0_14.out.c0; have hc28b := V0_14.out.c1; have hc28c := V0_14.out.c2; have hc28d := V0_14.out.c3; have V5_14 := Lib.hid (CVar.ext V5_13.out hx27); have hc29a := V5_14.out.c0; have hc29b := V5_14.out.c1; have hc29c := V5_14.out.c2; have hc29d := V5_14.out.c3))
    have X8 := Lib.hid (Ext.tr X7.out hx12)
    have X9 := Lib.hid (Ext.tr X8.out hx15)
    have X10 := Lib.hid (Ext.markT X9.out hbw18 X3.out.size)
    have X11 := Lib.hid (Ext.tr X10.out hx21)
    have X12 := Lib.hid (Ext.mark X11.out K1_11.out hg24a X4.out.size)
    have K2_12 := Lib.hid (Own.kept K2_11.out hg24a (Apart.rowC ha6))
    have X13 := Lib.hid (Ext.mark X12.out K2_12.out hg24 X4.out.size)
    have X14 := Lib.hid (Ext.tr X13.out hx27)
    have tok : True := trivial
    go_wp2_with (first | (go_at_call 6; clear tok; refine (toStringS_c l0 _ _ (Hv0.out.ext X14.out) (by omega)).mono ?_; rintro e w30 ⟨v30, us30, rfl, ho30, hx30⟩; have V0_15 := Lib.hid (CVar.ext V0_14.out hx30); have hc31a := V0_15.out.c0; have hc31b := V0_15.out.c1; have hc31c := V0_15.out.c2; have hc31d := V0_15.out.c3; have V5_15 := Lib.hid (CVar.ext V5_14.out hx30); have hc32a := V5_15.out.c0; have hc32b := V5_15.out.c1; have hc32c := V5_15.out.c2; have hc32d := V5_15.out.c3))
    have tok : True := trivial
    go_wp2_with (first | (go_at_call 7; clear tok; refine (readCanon_c l0 _ _ _ _ ho30 Hall.out Hsz.out).mono ?_; rintro e w33 ⟨v33, u33, rfl, ho33, hp33, ha33, hx33⟩; rw [Hbb.out]; obtain ⟨A33, m33, c33, rfl⟩ := ho33.form; obtain ⟨A33', m33', c33', rfl⟩ := hp33.form; have V0_16 := Lib.hid (CVar.ext V0_15.out hx33); have V0_17 := Lib.hid (CVar.ext V0_16.out (one_box w33 (.cells #[.int .i64 (rcN l0), (.slice A33 m33 c33), .int .i64 (rcN l0), (.slice A33' m33' c33')] 28))); have hc34a := V0_17.out.c0; have hc34b := V0_17.out.c1; have hc34c := V0_17.out.c2; have hc34d := V0_17.out.c3; have V5_16 := Lib.hid (CVar.ext V5_15.out hx33); have V5_17 := Lib.hid (CVar.ext V5_16.out (one_box w33 (.cells #[.int .i64 (rcN l0), (.slice A33 m33 c33), .int .i64 (rcN l0), (.slice A33' m33' c33')] 28))); have hc35a := V5_17.out.c0; have hc35b := V5_17.out.c1; have hc35c := V5_17.out.c2; have hc35d := V5_17.out.c3; have hc36a := (CVar.new (T := 28) w33 (rcN l0) (.slice A33 m33 c33) (rcN l0) (.slice A33' m33' c33')).c0; have hc36b := (CVar.new (T := 28) w33 (rcN l0) (.slice A33 m33 c33) (rcN l0) (.slice A33' m33' c33')).c1; have hc36c := (CVar.new (T := 28) w33 (rcN l0) (.slice A33 m33 c33) (rcN l0) (.slice A33' m33' c33')).c2; have hc36d := (CVar.new (T := 28) w33 (rcN l0) (.slice A33 m33 c33) (rcN l0) (.slice A33' m33' c33')).c3))
    have K7_17 := Lib.hid (Own.ext ho33 (one_box w33 (.cells #[.int .i64 (rcN l0), (.slice A33 m33 c33), .int .i64 (rcN l0), (.slice A33' m33' c33')] 28)))
    have K8_17 := Lib.hid (Own.ext hp33 (one_box w33 (.cells #[.int .i64 (rcN l0), (.slice A33 m33 c33), .int .i64 (rcN l0), (.slice A33' m33' c33')] 28)))
    have K3_11 := Lib.hid (Own.ext K3_10.out hx21)
    have K3_12 := Lib.hid (Own.kept K3_11.out hg24a (Own.apart K3_4.out ho6))
    have K3_13 := Lib.hid (Own.kept K3_12.out hg24 (Own.apart K3_4.out hp6))
    have K3_14 := Lib.hid (Own.ext K3_13.out hx27)
    have K3_15 := Lib.hid (Own.ext K3_14.out hx30)
    have K3_16 := Lib.hid (Own.ext K3_15.out hx33)
    have K3_17 := Lib.hid (Own.ext K3_16.out (one_box w33 (.cells #[.int .i64 (rcN l0), (.slice A33 m33 c33), .int .i64 (rcN l0), (.slice A33' m33' c33')] 28)))
    have K4_11 := Lib.hid (Own.ext K4_10.out hx21)
    have K4_12 := Lib.hid (Own.kept K4_11.out hg24a (Own.apart K4_4.out ho6))
    have K4_13 := Lib.hid (Own.kept K4_12.out hg24 (Own.apart K4_4.out hp6))
    have K4_14 := Lib.hid (Own.ext K4_13.out hx27)
    have K4_15 := Lib.hid (Own.ext K4_14.out hx30)
    have K4_16 := Lib.hid (Own.ext K4_15.out hx33)
    have K4_17 := Lib.hid (Own.ext K4_16.out (one_box w33 (.cells #[.int .i64 (rcN l0), (.slice A33 m33 c33), .int .i64 (rcN l0), (.slice A33' m33' c33')] 28)))
    have tok : True := trivial
    go_wp2_with (first | (go_at_call 8; clear tok; refine (eqCanon_c (rcN l0) (rcN l0) (rcN l0) (rcN l0) (rcI l0) (rcE l0) (rcI l0) (rcE l0) _ _ _ _ _ (Own.ints K7_17.out) (Own.ints K8_17.out) (Own.ints K3_17.out) (Own.ints K4_17.out)).mono ?_; rintro e w37 ⟨b37, rfl, hb37, hx37⟩; obtain rfl := hb37.2 ⟨rfl, rfl, rfl, rfl⟩; clear hb37; have V0_18 := Lib.hid (CVar.ext V0_17.out hx37); have hc38a := V0_18.out.c0; have hc38b := V0_18.out.c1; have hc38c := V0_18.out.c2; have hc38d := V0_18.out.c3; have V5_18 := Lib.hid (CVar.ext V5_17.out hx37); have hc39a := V5_18.out.c0; have hc39b := V5_18.out.c1; have hc39c := V5_18.out.c2; have hc39d := V5_18.out.c3; have V9_18 := Lib.hid (CVar.ext (CVar.new (T := 28) w33 (rcN l0) (.slice A33 m33 c33) (rcN l0) (.slice A33' m33' c33')) hx37); have hc40a := V9_18.out.c0; have hc40b := V9_18.out.c1; have hc40c := V9_18.out.c2; have hc40d := V9_18.out.c3))
    have K1_14 := Lib.hid (Own.ext K1_13.out hx27)
    have K1_15 := Lib.hid (Own.ext K1_14.out hx30)
    have K1_16 := Lib.hid (Own.ext K1_15.out hx33)
    have K1_17 := Lib.hid (Own.ext K1_16.out (one_box w33 (.cells #[.int .i64 (rcN l0), (.slice A33 m33 c33), .int .i64 (rcN l0), (.slice A33' m33' c33')] 28)))
    have K1_18 := Lib.hid (Own.ext K1_17.out hx37)
    have K2_14 := Lib.hid (Own.ext hm24 hx27)
    have K2_15 := Lib.hid (Own.ext K2_14.out hx30)
    have K2_16 := Lib.hid (Own.ext K2_15.out hx33)
    have K2_17 := Lib.hid (Own.ext K2_16.out (one_box w33 (.cells #[.int .i64 (rcN l0), (.slice A33 m33 c33), .int .i64 (rcN l0), (.slice A33' m33' c33')] 28)))
    have K2_18 := Lib.hid (Own.ext K2_17.out hx37)
    have tok : True := trivial
    go_wp2_with (first | (go_at_call 12; clear tok; refine (heldCanon_c ((rcI l0)).length ((rcE l0)).length (rcN l0) (rcN l0) 1 _ _ _ (Own.ints K1_18.out) (Own.ints K2_18.out) (by omega) (by omega) (by omega)).mono ?_; rintro e w41 ⟨q41, rfl, hq41, hx41⟩; obtain rfl : q24 = q41 := hq24.out.trans hq41.out.symm; have V0_19 := Lib.hid (CVar.ext V0_18.out hx41); have hc42a := V0_19.out.c0; have hc42b := V0_19.out.c1; have hc42c := V0_19.out.c2; have hc42d := V0_19.out.c3; have V5_19 := Lib.hid (CVar.ext V5_18.out hx41); have hc43a := V5_19.out.c0; have hc43b := V5_19.out.c1; have hc43c := V5_19.out.c2; have hc43d := V5_19.out.c3; have V9_19 := Lib.hid (CVar.ext V9_18.out hx41); have hc44a := V9_19.out.c0; have hc44b := V9_19.out.c1; have hc44c := V9_19.out.c2; have hc44d := V9_19.out.c3))
    go_ret
    have X15 := Lib.hid (Ext.tr X14.out hx30)
    have X16 := Lib.hid (Ext.tr X15.out hx33)
    have X17 := Lib.hid (Ext.tr X16.out (one_box w33 (.cells #[.int .i64 (rcN l0), (.slice A33 m33 c33), .int .i64 (rcN l0), (.slice A33' m33' c33')] 28)))
    have X18 := Lib.hid (Ext.tr X17.out hx37)
    have X19 := Lib.hid (Ext.tr X18.out hx41)
    exact ⟨rfl, X19.out⟩

namespace fnExactReadCanonGlue
set_option maxRecDepth 100000 in
theorem lifted (os : Os) (started : os.Started) (H : Type) (enc : TypeId × Value → H) :
    ReturnsInHanded {} Tryd.checked os 3 .any (fun w args => (Rows.fnExactReadCanonSpec.pre enc Tryd.prog Tryd.f3 [] false w args ∧ laidMetH Tryd.prog laidD w) ∧ sizedMet enc Tryd.prog Tryd.f3 (OpenSpec.ofChange Rows.fnExactReadCanonSpec) false w args) (Rows.fnExactReadCanonSpec.post enc Tryd.prog Tryd.f3 false true false false) := by
  refine returnsInHanded_of_change_and (C := Tryd.checked) (X := fun w _ => laidMetH Tryd.prog laidD w) (fun _ _ _ hh h => h.of_heap hh) own started (by kernel_rfl) Tryd.func3
    (ChangeSpec.witness_shaped (enc := enc) (C := Tryd.checked) (os := os) (X := fun w _ => laidMetH Tryd.prog laidD w) false (World.laidAll Tryd.prog os laidD) #[.slice none 0 0] 8 (World.laidAll_os _ _ _) (World.shaped_of_ZipB (by kernel_rfl) (by kernel_rfl)) (by kernel_rfl) (by kernel_rfl) (by kernel_rfl) (door_met os _)) ?_
  intro W base args ds gs before hval0 hW _ _ hL _
  have hval : ∀ (j : Nat) t v, Tryd.f3.params[j]? = some t → args[j]? = some v → Value.okWide Tryd.prog W .any base t v := hval0
  have hW' := hW
  obtain ⟨p, q, hA0, hV, rfl, hfz, hnd⟩ := hW
  have hA : DataW.TrodAll enc Tryd.prog W 0 (fun _ => true) true Tryd.f3.params.toList args.toList ds p := hA0
  rw [Tryd.params3] at hA hval
  obtain ⟨v0, vs0, d0, ds0, p0, q0, hargs, rfl, rfl, h0, r0⟩ := trodAll_cons hA
  obtain ⟨rfl, rfl, rfl⟩ := trodAll_nil r0
  obtain rfl : args = #[v0] := by cases args; simp_all
  obtain ⟨rfl, rfl⟩ := trodVars_none hV
  have k0 := h0
  have lt0 : ∀ x ∈ p0, x.block < W.heap.size := by obtain ⟨m, hm⟩ := k0; exact DataW.trod_lt m _ _ _ hm
  obtain ⟨l0, w0⟩ := strs_in (hval 0 22 v0 rfl rfl) h0
  clear hA0 hval0
  refine (lawReadCanon_c l0 v0 W w0).mono fun e W' ⟨he, bel⟩ => ?_
  subst he
  exact ⟨_, rfl, _, _, _, [], _, [], hW', trodAll_mk1 (shut_bool Tryd.underlying4 _), (trodAll_cons_mk (Below.trod laidOut (by kernel_rfl) (of_decide_eq_true (by kernel_rfl)) k0 bel lt0) trodAll_mk0), rfl, bel.frame _, fun h => by cases h⟩
theorem over : Rows.fnExactReadCanonRow.holds Tryd.pinned (OpenSpec.ofChange Rows.fnExactReadCanonSpec) :=
  OpenClaim.holds_of_wide 3 Tryd.f3 rfl rfl rfl rfl rfl rfl rfl ⟨rfl, rfl, rfl, rfl, rfl⟩ rfl rfl rfl rfl rfl (by kernel_rfl) Tryd.func3 (by kernel_rfl)
    (of_decide_eq_true (by kernel_rfl)) (by unfold Func.isWrapper; first | (rw [if_pos (by decide +kernel)]; kernel_rfl) | (rw [if_neg (by decide +kernel)]; exact ⟨rfl, rfl⟩))
    (fun os started H enc _ => lifted os started H enc)
end fnExactReadCanonGlue
theorem fnExactReadCanon_row : Rows.FnExactReadCanonSaid := fnExactReadCanonGlue.over
/-- THE STATEMENT: the tied card. -/
theorem fnExactReadCanon_holds : Rows.FnExactReadCanonCardSaid :=
  Claim7.holds_tied_plain_at .later [] [.data, .pinned] true (true, "3d61dc4ed673902300f1e2e76354d59075a5c853893f36ac920e66a55531a862") false
    fnExactReadCanon_row (fun _ h => by cases h) (by kernel_rfl) (fun _ h => by cases h) fnExactReadCanon_row_tie rfl ⟨rfl, rfl⟩ (by kernel_rfl) rfl
    (fun f fn hf hfn => by
      obtain rfl : f = 3 := Option.some.inj ((show Tryd.prog.funcNamed "loop.example/g03204/laws.FnExactReadCanon" = some 3 by kernel_rfl).symm.trans hf) |>.symm
      obtain rfl : fn = Tryd.f3 := (Option.some.inj (Tryd.func3.symm.trans hfn)).symm
      exact ⟨by kernel_rfl, fun j t ht => by
        rw [Tryd.params3] at ht
        have hm : t ∈ [22] := by simpa using Array.mem_of_getElem? ht
        have hall : ([22].all fun u => !Tryd.prog.wantsStandIn u) = true := by kernel_rfl
        exact (show Tryd.prog.wantsStandIn t = false by simpa using List.all_eq_true.1 hall t hm)⟩)
    (by kernel_rfl)
#print axioms fnExactReadCanon_holds
end Go.Proofs.YtnlbcnlcdbemaaaDoor
