/- For every slice the law FnExactLineTiling returns true: the program's LineTiling returns what the reference's returns, in new memory, and leaves its argument. Conditions: none beyond the row's own. -/
import Derived.Test.YtaiigheknmndnaaFlt
import Derived.Test.YtaiigheknmndnaaLawR
import Derived.Test.YtaiigheknmndnaaGlue
namespace Go.Proofs.Ytaiigheknmndnaa
open Go.ChangeShapes Go.WideShapes Go.ChangeAt Go.RowKit
attribute [local irreducible] ltN ltP ltE ltB
set_option maxHeartbeats 8000000 in
theorem lawLineTiling_c (l0 : List Int) (v'0 : Value) (w : World) (hv0 : Ints w v'0 l0) : Calls Try.prog 9 #[v'0] w fun e w' => e = .returned (.bool true) ∧ Ext w w' := by
  obtain ⟨A'0, c'0, hve0, hlc0, hcm0, hcell0⟩ := id hv0
  subst hve0
  have Hv0 := Lib.hid hv0
  clear hv0 hcell0
  by_cases hle0 : l0.length ≤ 1048576
  rotate_left
  · go_enter Try.func9, Try.ntmps9
    go_wp2
    go_ret
    exact ⟨rfl, (Below.refl w.heap.size w)⟩
  have hF := (lt_len l0).1
  have hF2 := (lt_len l0).2
  have hFB : ((ltB l0) != (ltB l0)) = false := by simp
  go_enter Try.func9, Try.ntmps9
  have tok : True := trivial
  go_wp2_with (first | (go_at_call 38; clear tok; have hz : (l0 : List Int).length ≤ 1099511627776 := (by omega); refine (toIntS_c l0 _ _ (Hv0.out.ext (Below.refl w.heap.size w)) hz).mono ?_; clear hz; rintro e w1 ⟨v1, rfl, ho1, hx1⟩; obtain ⟨A1, m1, c1, rfl⟩ := ho1.form))
  have tok : True := trivial
  go_wp2_with (first | (go_at_call 37; clear tok; refine (specLineTiling_c l0 _ _ (Own.ints ho1)).mono ?_; rintro e w2 ⟨v2, u2, rfl, ho2, hp2, ha2, hx2⟩; obtain ⟨A2, m2, c2, rfl⟩ := ho2.form; obtain ⟨A2', m2', c2', rfl⟩ := hp2.form; have Hn2 : Hid (RVar ((w2.alloc (.cells #[.int .i64 (ltN l0), (.slice A2 m2 c2)] 29)).alloc (.cells #[.int .i64 (ltN l0), (.slice A2' m2' c2')] 29)) (w2.heap.size + 1) (ltN l0) (.slice A2' m2' c2')) := (by unfold Hid; simpa only [World.size_alloc] using RVar.new (T := 29) (w2.alloc (.cells #[.int .i64 (ltN l0), (.slice A2 m2 c2)] 29)) (ltN l0) (.slice A2' m2' c2')); have V0_4 := Lib.hid (RVar.ext (RVar.new (T := 29) w2 (ltN l0) (.slice A2 m2 c2)) (one_box (w2.alloc (.cells #[.int .i64 (ltN l0), (.slice A2 m2 c2)] 29)) (.cells #[.int .i64 (ltN l0), (.slice A2' m2' c2')] 29))); have hc3a := V0_4.out.c0; have hc3b := V0_4.out.c1; have hc4a := Hn2.out.c0; have hc4b := Hn2.out.c1))
  have X1 := Lib.hid (Ext.tr (Below.refl w.heap.size w) hx1)
  have X2 := Lib.hid (Ext.tr X1.out hx2)
  have X3 := Lib.hid (Ext.tr X2.out (one_box w2 (.cells #[.int .i64 (ltN l0), (.slice A2 m2 c2)] 29)))
  have X4 := Lib.hid (Ext.tr X3.out (one_box (w2.alloc (.cells #[.int .i64 (ltN l0), (.slice A2 m2 c2)] 29)) (.cells #[.int .i64 (ltN l0), (.slice A2' m2' c2')] 29)))
  have tok : True := trivial
  go_wp2_with (first | (go_at_call 38; clear tok; have hz : (l0 : List Int).length ≤ 1099511627776 := (by omega); refine (toIntS_c l0 _ _ (Hv0.out.ext X4.out) hz).mono ?_; clear hz; rintro e w5 ⟨v5, rfl, ho5, hx5⟩; obtain ⟨A5, m5, c5, rfl⟩ := ho5.form; have V0_5 := Lib.hid (RVar.ext V0_4.out hx5); have hc6a := V0_5.out.c0; have hc6b := V0_5.out.c1; have V1_5 := Lib.hid (RVar.ext Hn2.out hx5); have hc7a := V1_5.out.c0; have hc7b := V1_5.out.c1))
  have tok : True := trivial
  go_wp2_with (first | (go_at_call 39; clear tok; refine (lineTiling_c l0 _ _ (Own.ints ho5)).mono ?_; rintro e w8 ⟨v8, u8, rfl, ho8, hp8, ha8, hx8⟩; obtain ⟨A8, m8, c8, rfl⟩ := ho8.form; obtain ⟨A8', m8', c8', rfl⟩ := hp8.form; have Hn8 : Hid (RVar ((w8.alloc (.cells #[.int .i64 (ltN l0), (.slice A8 m8 c8)] 29)).alloc (.cells #[.int .i64 (ltN l0), (.slice A8' m8' c8')] 29)) (w8.heap.size + 1) (ltN l0) (.slice A8' m8' c8')) := (by unfold Hid; simpa only [World.size_alloc] using RVar.new (T := 29) (w8.alloc (.cells #[.int .i64 (ltN l0), (.slice A8 m8 c8)] 29)) (ltN l0) (.slice A8' m8' c8')); have V0_6 := Lib.hid (RVar.ext V0_5.out hx8); have V0_7 := Lib.hid (RVar.ext V0_6.out (one_box w8 (.cells #[.int .i64 (ltN l0), (.slice A8 m8 c8)] 29))); have V0_8 := Lib.hid (RVar.ext V0_7.out (one_box (w8.alloc (.cells #[.int .i64 (ltN l0), (.slice A8 m8 c8)] 29)) (.cells #[.int .i64 (ltN l0), (.slice A8' m8' c8')] 29))); have hc9a := V0_8.out.c0; have hc9b := V0_8.out.c1; have V1_6 := Lib.hid (RVar.ext V1_5.out hx8); have V1_7 := Lib.hid (RVar.ext V1_6.out (one_box w8 (.cells #[.int .i64 (ltN l0), (.slice A8 m8 c8)] 29))); have V1_8 := Lib.hid (RVar.ext V1_7.out (one_box (w8.alloc (.cells #[.int .i64 (ltN l0), (.slice A8 m8 c8)] 29)) (.cells #[.int .i64 (ltN l0), (.slice A8' m8' c8')] 29))); have hc10a := V1_8.out.c0; have hc10b := V1_8.out.c1; have V2_8 := Lib.hid (RVar.ext (RVar.new (T := 29) w8 (ltN l0) (.slice A8 m8 c8)) (one_box (w8.alloc (.cells #[.int .i64 (ltN l0), (.slice A8 m8 c8)] 29)) (.cells #[.int .i64 (ltN l0), (.slice A8' m8' c8')] 29))); have hc11a := V2_8.out.c0; have hc11b := V2_8.out.c1; have hc12a := Hn8.out.c0; have hc12b := Hn8.out.c1))
  have K3_7 := Lib.hid (Own.ext ho8 (one_box w8 (.cells #[.int .i64 (ltN l0), (.slice A8 m8 c8)] 29)))
  have K3_8 := Lib.hid (Own.ext K3_7.out (one_box (w8.alloc (.cells #[.int .i64 (ltN l0), (.slice A8 m8 c8)] 29)) (.cells #[.int .i64 (ltN l0), (.slice A8' m8' c8')] 29)))
  have K4_3 := Lib.hid (Own.ext ho2 (one_box w2 (.cells #[.int .i64 (ltN l0), (.slice A2 m2 c2)] 29)))
  have K4_4 := Lib.hid (Own.ext K4_3.out (one_box (w2.alloc (.cells #[.int .i64 (ltN l0), (.slice A2 m2 c2)] 29)) (.cells #[.int .i64 (ltN l0), (.slice A2' m2' c2')] 29)))
  have K4_5 := Lib.hid (Own.ext K4_4.out hx5)
  have K4_6 := Lib.hid (Own.ext K4_5.out hx8)
  have K4_7 := Lib.hid (Own.ext K4_6.out (one_box w8 (.cells #[.int .i64 (ltN l0), (.slice A8 m8 c8)] 29)))
  have K4_8 := Lib.hid (Own.ext K4_7.out (one_box (w8.alloc (.cells #[.int .i64 (ltN l0), (.slice A8 m8 c8)] 29)) (.cells #[.int .i64 (ltN l0), (.slice A8' m8' c8')] 29)))
  have tok : True := trivial
  go_wp2_with (first | (go_at_call 22; clear tok; refine (eqRhythm_c (ltN l0) (ltN l0) (ltP l0) (ltP l0) _ _ _ (Own.ints K3_8.out) (Own.ints K4_8.out)).mono ?_; rintro e w13 ⟨b13, rfl, hb13, hx13⟩; obtain rfl := hb13.2 ⟨rfl, rfl⟩; clear hb13; have V0_9 := Lib.hid (RVar.ext V0_8.out hx13); have hc14a := V0_9.out.c0; have hc14b := V0_9.out.c1; have V1_9 := Lib.hid (RVar.ext V1_8.out hx13); have hc15a := V1_9.out.c0; have hc15b := V1_9.out.c1; have V2_9 := Lib.hid (RVar.ext V2_8.out hx13); have hc16a := V2_9.out.c0; have hc16b := V2_9.out.c1; have V5_9 := Lib.hid (RVar.ext Hn8.out hx13); have hc17a := V5_9.out.c0; have hc17b := V5_9.out.c1))
  have K6_7 := Lib.hid (Own.ext hp8 (one_box w8 (.cells #[.int .i64 (ltN l0), (.slice A8 m8 c8)] 29)))
  have K6_8 := Lib.hid (Own.ext K6_7.out (one_box (w8.alloc (.cells #[.int .i64 (ltN l0), (.slice A8 m8 c8)] 29)) (.cells #[.int .i64 (ltN l0), (.slice A8' m8' c8')] 29)))
  have K6_9 := Lib.hid (Own.ext K6_8.out hx13)
  have K7_3 := Lib.hid (Own.ext hp2 (one_box w2 (.cells #[.int .i64 (ltN l0), (.slice A2 m2 c2)] 29)))
  have K7_4 := Lib.hid (Own.ext K7_3.out (one_box (w2.alloc (.cells #[.int .i64 (ltN l0), (.slice A2 m2 c2)] 29)) (.cells #[.int .i64 (ltN l0), (.slice A2' m2' c2')] 29)))
  have K7_5 := Lib.hid (Own.ext K7_4.out hx5)
  have K7_6 := Lib.hid (Own.ext K7_5.out hx8)
  have K7_7 := Lib.hid (Own.ext K7_6.out (one_box w8 (.cells #[.int .i64 (ltN l0), (.slice A8 m8 c8)] 29)))
  have K7_8 := Lib.hid (Own.ext K7_7.out (one_box (w8.alloc (.cells #[.int .i64 (ltN l0), (.slice A8 m8 c8)] 29)) (.cells #[.int .i64 (ltN l0), (.slice A8' m8' c8')] 29)))
  have K7_9 := Lib.hid (Own.ext K7_8.out hx13)
  have tok : True := trivial
  go_wp2_with (first | (go_at_call 22; clear tok; refine (eqRhythm_c (ltN l0) (ltN l0) (ltE l0) (ltE l0) _ _ _ (Own.ints K6_9.out) (Own.ints K7_9.out)).mono ?_; rintro e w18 ⟨b18, rfl, hb18, hx18⟩; obtain rfl := hb18.2 ⟨rfl, rfl⟩; clear hb18; have V0_10 := Lib.hid (RVar.ext V0_9.out hx18); have hc19a := V0_10.out.c0; have hc19b := V0_10.out.c1; have V1_10 := Lib.hid (RVar.ext V1_9.out hx18); have hc20a := V1_10.out.c0; have hc20b := V1_10.out.c1; have V2_10 := Lib.hid (RVar.ext V2_9.out hx18); have hc21a := V2_10.out.c0; have hc21b := V2_10.out.c1; have V5_10 := Lib.hid (RVar.ext V5_9.out hx18); have hc22a := V5_10.out.c0; have hc22b := V5_10.out.c1))
  have X5 := Lib.hid (Ext.tr X4.out hx5)
  have X6 := Lib.hid (Ext.tr X5.out hx8)
  have X7 := Lib.hid (Ext.tr X6.out (one_box w8 (.cells #[.int .i64 (ltN l0), (.slice A8 m8 c8)] 29)))
  have X8 := Lib.hid (Ext.tr X7.out (one_box (w8.alloc (.cells #[.int .i64 (ltN l0), (.slice A8 m8 c8)] 29)) (.cells #[.int .i64 (ltN l0), (.slice A8' m8' c8')] 29)))
  have X9 := Lib.hid (Ext.tr X8.out hx13)
  have X10 := Lib.hid (Ext.tr X9.out hx18)
  have tok : True := trivial
  go_wp2_with (first | (go_at_call 38; clear tok; have hz : (l0 : List Int).length ≤ 1099511627776 := (by omega); refine (toIntS_c l0 _ _ (Hv0.out.ext X10.out) hz).mono ?_; clear hz; rintro e w23 ⟨v23, rfl, ho23, hx23⟩; obtain ⟨A23, m23, c23, rfl⟩ := ho23.form; have V0_11 := Lib.hid (RVar.ext V0_10.out hx23); have hc24a := V0_11.out.c0; have hc24b := V0_11.out.c1; have V1_11 := Lib.hid (RVar.ext V1_10.out hx23); have hc25a := V1_11.out.c0; have hc25b := V1_11.out.c1; have V2_11 := Lib.hid (RVar.ext V2_10.out hx23); have hc26a := V2_11.out.c0; have hc26b := V2_11.out.c1; have V5_11 := Lib.hid (RVar.ext V5_10.out hx23); have hc27a := V5_11.out.c0; have hc27b := V5_11.out.c1))
  have K8_6 := Lib.hid (Own.ext ho5 hx8)
  have K8_7 := Lib.hid (Own.ext K8_6.out (one_box w8 (.cells #[.int .i64 (ltN l0), (.slice A8 m8 c8)] 29)))
  have K8_8 := Lib.hid (Own.ext K8_7.out (one_box (w8.alloc (.cells #[.int .i64 (ltN l0), (.slice A8 m8 c8)] 29)) (.cells #[.int .i64 (ltN l0), (.slice A8' m8' c8')] 29)))
  have K8_9 := Lib.hid (Own.ext K8_8.out hx13)
  have K8_10 := Lib.hid (Own.ext K8_9.out hx18)
  have K8_11 := Lib.hid (Own.ext K8_10.out hx23)
  have tok : True := trivial
  go_wp2_with (first | (go_at_call 15; clear tok; refine (eqIntS_c l0 l0 _ _ _ (Own.ints K8_11.out) (Own.ints ho23)).mono ?_; rintro e w28 ⟨b28, rfl, hb28, hx28⟩; obtain rfl := hb28.2 rfl; clear hb28; have V0_12 := Lib.hid (RVar.ext V0_11.out hx28); have hc29a := V0_12.out.c0; have hc29b := V0_12.out.c1; have V1_12 := Lib.hid (RVar.ext V1_11.out hx28); have hc30a := V1_12.out.c0; have hc30b := V1_12.out.c1; have V2_12 := Lib.hid (RVar.ext V2_11.out hx28); have hc31a := V2_12.out.c0; have hc31b := V2_12.out.c1; have V5_12 := Lib.hid (RVar.ext V5_11.out hx28); have hc32a := V5_12.out.c0; have hc32b := V5_12.out.c1))
  have K8_12 := Lib.hid (Own.ext K8_11.out hx28)
  have tok : True := trivial
  go_wp2_with (first | (go_at_call 18; clear tok; refine (markIntS_q l0 1 _ _ K8_12.out (by omega) (by omega)).mono ?_; rintro e w33 ⟨q33, rfl, hq33, hl33, hm33, hg33⟩; have V0_13 := Lib.hid (RVar.kept V0_12.out hg33 (Own.ne_lt ho5 (Nat.lt_of_lt_of_le (RVar.new (T := 29) w2 (ltN l0) (.slice A2 m2 c2)).lt (Nat.le_trans (Nat.le_refl _) (one_box (w2.alloc (.cells #[.int .i64 (ltN l0), (.slice A2 m2 c2)] 29)) (.cells #[.int .i64 (ltN l0), (.slice A2' m2' c2')] 29)).size)))); have hc34a := V0_13.out.c0; have hc34b := V0_13.out.c1; have V1_13 := Lib.hid (RVar.kept V1_12.out hg33 (Own.ne_lt ho5 (Nat.lt_of_lt_of_le Hn2.out.lt (Nat.le_refl _)))); have hc35a := V1_13.out.c0; have hc35b := V1_13.out.c1; have V2_13 := Lib.hid (RVar.kept V2_12.out hg33 (Own.ne_ge ho5 (Nat.le_trans (Nat.le_refl _) hx8.size))); have hc36a := V2_13.out.c0; have hc36b := V2_13.out.c1; have V5_13 := Lib.hid (RVar.kept V5_12.out hg33 (Own.ne_ge ho5 (Nat.le_succ_of_le (Nat.le_trans (Nat.le_refl _) hx8.size)))); have hc37a := V5_13.out.c0; have hc37b := V5_13.out.c1))
  have K3_9 := Lib.hid (Own.ext K3_8.out hx13)
  have K3_10 := Lib.hid (Own.ext K3_9.out hx18)
  have K3_11 := Lib.hid (Own.ext K3_10.out hx23)
  have K3_12 := Lib.hid (Own.ext K3_11.out hx28)
  have K3_13 := Lib.hid (Own.kept K3_12.out hg33 (Own.apart' ho5 ho8))
  have K4_9 := Lib.hid (Own.ext K4_8.out hx13)
  have K4_10 := Lib.hid (Own.ext K4_9.out hx18)
  have K4_11 := Lib.hid (Own.ext K4_10.out hx23)
  have K4_12 := Lib.hid (Own.ext K4_11.out hx28)
  have K4_13 := Lib.hid (Own.kept K4_12.out hg33 (Own.apart K4_4.out ho5))
  have tok : True := trivial
  go_wp2_with (first | (go_at_call 22; clear tok; refine (eqRhythm_c (ltN l0) (ltN l0) (ltP l0) (ltP l0) _ _ _ (Own.ints K3_13.out) (Own.ints K4_13.out)).mono ?_; rintro e w38 ⟨b38, rfl, hb38, hx38⟩; obtain rfl := hb38.2 ⟨rfl, rfl⟩; clear hb38; have V0_14 := Lib.hid (RVar.ext V0_13.out hx38); have hc39a := V0_14.out.c0; have hc39b := V0_14.out.c1; have V1_14 := Lib.hid (RVar.ext V1_13.out hx38); have hc40a := V1_14.out.c0; have hc40b := V1_14.out.c1; have V2_14 := Lib.hid (RVar.ext V2_13.out hx38); have hc41a := V2_14.out.c0; have hc41b := V2_14.out.c1; have V5_14 := Lib.hid (RVar.ext V5_13.out hx38); have hc42a := V5_14.out.c0; have hc42b := V5_14.out.c1))
  have K6_10 := Lib.hid (Own.ext K6_9.out hx18)
  have K6_11 := Lib.hid (Own.ext K6_10.out hx23)
  have K6_12 := Lib.hid (Own.ext K6_11.out hx28)
  have K6_13 := Lib.hid (Own.kept K6_12.out hg33 (Own.apart' ho5 hp8))
  have K6_14 := Lib.hid (Own.ext K6_13.out hx38)
  have K7_10 := Lib.hid (Own.ext K7_9.out hx18)
  have K7_11 := Lib.hid (Own.ext K7_10.out hx23)
  have K7_12 := Lib.hid (Own.ext K7_11.out hx28)
  have K7_13 := Lib.hid (Own.kept K7_12.out hg33 (Own.apart K7_4.out ho5))
  have K7_14 := Lib.hid (Own.ext K7_13.out hx38)
  have tok : True := trivial
  go_wp2_with (first | (go_at_call 22; clear tok; refine (eqRhythm_c (ltN l0) (ltN l0) (ltE l0) (ltE l0) _ _ _ (Own.ints K6_14.out) (Own.ints K7_14.out)).mono ?_; rintro e w43 ⟨b43, rfl, hb43, hx43⟩; obtain rfl := hb43.2 ⟨rfl, rfl⟩; clear hb43; have V0_15 := Lib.hid (RVar.ext V0_14.out hx43); have hc44a := V0_15.out.c0; have hc44b := V0_15.out.c1; have V1_15 := Lib.hid (RVar.ext V1_14.out hx43); have hc45a := V1_15.out.c0; have hc45b := V1_15.out.c1; have V2_15 := Lib.hid (RVar.ext V2_14.out hx43); have hc46a := V2_15.out.c0; have hc46b := V2_15.out.c1; have V5_15 := Lib.hid (RVar.ext V5_14.out hx43); have hc47a := V5_15.out.c0; have hc47b := V5_15.out.c1))
  have K3_14 := Lib.hid (Own.ext K3_13.out hx38)
  have K3_15 := Lib.hid (Own.ext K3_14.out hx43)
  have tok : True := trivial
  go_wp2_with (first | (go_at_call 23; clear tok; refine (markRhythm_q (ltP l0) (ltN l0) 1 _ _ K3_15.out (by omega) (by omega)).mono ?_; rintro e w48 ⟨q48, rfl, hq48, hl48, hm48, hg48⟩; have V0_16 := Lib.hid (RVar.kept V0_15.out hg48 (Own.ne_lt ho8 (Nat.lt_of_lt_of_le (RVar.new (T := 29) w2 (ltN l0) (.slice A2 m2 c2)).lt (Nat.le_trans (Nat.le_trans (Nat.le_refl _) (one_box (w2.alloc (.cells #[.int .i64 (ltN l0), (.slice A2 m2 c2)] 29)) (.cells #[.int .i64 (ltN l0), (.slice A2' m2' c2')] 29)).size) hx5.size)))); have hc49a := V0_16.out.c0; have hc49b := V0_16.out.c1; have V1_16 := Lib.hid (RVar.kept V1_15.out hg48 (Own.ne_lt ho8 (Nat.lt_of_lt_of_le Hn2.out.lt (Nat.le_trans (Nat.le_refl _) hx5.size)))); have hc50a := V1_16.out.c0; have hc50b := V1_16.out.c1; have V2_16 := Lib.hid (RVar.kept V2_15.out hg48 (Own.ne_ge ho8 (Nat.le_refl _))); have hc51a := V2_16.out.c0; have hc51b := V2_16.out.c1; have V5_16 := Lib.hid (RVar.kept V5_15.out hg48 (Own.ne_ge ho8 (Nat.le_succ_of_le (Nat.le_refl _)))); have hc52a := V5_16.out.c0; have hc52b := V5_16.out.c1))
  have K6_15 := Lib.hid (Own.ext K6_14.out hx43)
  have K6_16 := Lib.hid (Own.kept K6_15.out hg48 (Apart.rowT ha8))
  have tok : True := trivial
  go_wp2_with (first | (go_at_call 23; clear tok; refine (markRhythm_q (ltE l0) (ltN l0) q48 _ _ K6_16.out (by omega) (by omega)).mono ?_; rintro e w53 ⟨q53, rfl, hq53, hl53, hm53, hg53⟩; have V0_17 := Lib.hid (RVar.kept V0_16.out hg53 (Own.ne_lt hp8 (Nat.lt_of_lt_of_le (RVar.new (T := 29) w2 (ltN l0) (.slice A2 m2 c2)).lt (Nat.le_trans (Nat.le_trans (Nat.le_refl _) (one_box (w2.alloc (.cells #[.int .i64 (ltN l0), (.slice A2 m2 c2)] 29)) (.cells #[.int .i64 (ltN l0), (.slice A2' m2' c2')] 29)).size) hx5.size)))); have hc54a := V0_17.out.c0; have hc54b := V0_17.out.c1; have V1_17 := Lib.hid (RVar.kept V1_16.out hg53 (Own.ne_lt hp8 (Nat.lt_of_lt_of_le Hn2.out.lt (Nat.le_trans (Nat.le_refl _) hx5.size)))); have hc55a := V1_17.out.c0; have hc55b := V1_17.out.c1; have V2_17 := Lib.hid (RVar.kept V2_16.out hg53 (Own.ne_ge hp8 (Nat.le_refl _))); have hc56a := V2_17.out.c0; have hc56b := V2_17.out.c1; have V5_17 := Lib.hid (RVar.kept V5_16.out hg53 (Own.ne_ge hp8 (Nat.le_succ_of_le (Nat.le_refl _)))); have hc57a := V5_17.out.c0; have hc57b := V5_17.out.c1))
  have K3_17 := Lib.hid (Own.kept hm48 hg53 ha8)
  have tok : True := trivial
  go_wp2_with (first | (go_at_call 24; clear tok; refine (heldRhythm_q ((ltP l0)).length (ltN l0) 1 _ _ (Own.ints K3_17.out) (by omega) (by omega)).mono ?_; rintro e w58 ⟨q58, rfl, hq58, hl58, hx58⟩; obtain rfl : q48 = q58 := hq48.out.trans hq58.out.symm; have V0_18 := Lib.hid (RVar.ext V0_17.out hx58); have hc59a := V0_18.out.c0; have hc59b := V0_18.out.c1; have V1_18 := Lib.hid (RVar.ext V1_17.out hx58); have hc60a := V1_18.out.c0; have hc60b := V1_18.out.c1; have V2_18 := Lib.hid (RVar.ext V2_17.out hx58); have hc61a := V2_18.out.c0; have hc61b := V2_18.out.c1; have V5_18 := Lib.hid (RVar.ext V5_17.out hx58); have hc62a := V5_18.out.c0; have hc62b := V5_18.out.c1))
  have K6_18 := Lib.hid (Own.ext hm53 hx58)
  have tok : True := trivial
  go_wp2_with (first | (go_at_call 24; clear tok; refine (heldRhythm_q ((ltE l0)).length (ltN l0) q48 _ _ (Own.ints K6_18.out) (by omega) (by omega)).mono ?_; rintro e w63 ⟨q63, rfl, hq63, hl63, hx63⟩; obtain rfl : q53 = q63 := hq53.out.trans hq63.out.symm; have V0_19 := Lib.hid (RVar.ext V0_18.out hx63); have hc64a := V0_19.out.c0; have hc64b := V0_19.out.c1; have V1_19 := Lib.hid (RVar.ext V1_18.out hx63); have hc65a := V1_19.out.c0; have hc65b := V1_19.out.c1; have V2_19 := Lib.hid (RVar.ext V2_18.out hx63); have hc66a := V2_19.out.c0; have hc66b := V2_19.out.c1; have V5_19 := Lib.hid (RVar.ext V5_18.out hx63); have hc67a := V5_19.out.c0; have hc67b := V5_19.out.c1))
  have X11 := Lib.hid (Ext.tr X10.out hx23)
  have X12 := Lib.hid (Ext.tr X11.out hx28)
  have X13 := Lib.hid (Ext.mark X12.out K8_12.out hg33 X4.out.size)
  have X14 := Lib.hid (Ext.tr X13.out hx38)
  have X15 := Lib.hid (Ext.tr X14.out hx43)
  have X16 := Lib.hid (Ext.mark X15.out K3_15.out hg48 X5.out.size)
  have X17 := Lib.hid (Ext.mark X16.out K6_16.out hg53 X5.out.size)
  have X18 := Lib.hid (Ext.tr X17.out hx58)
  have X19 := Lib.hid (Ext.tr X18.out hx63)
  have tok : True := trivial
  go_wp2_with (first | (go_at_call 38; clear tok; have hz : (l0 : List Int).length ≤ 1099511627776 := (by omega); refine (toIntS_c l0 _ _ (Hv0.out.ext X19.out) hz).mono ?_; clear hz; rintro e w68 ⟨v68, rfl, ho68, hx68⟩; obtain ⟨A68, m68, c68, rfl⟩ := ho68.form; have V0_20 := Lib.hid (RVar.ext V0_19.out hx68); have hc69a := V0_20.out.c0; have hc69b := V0_20.out.c1; have V1_20 := Lib.hid (RVar.ext V1_19.out hx68); have hc70a := V1_20.out.c0; have hc70b := V1_20.out.c1; have V2_20 := Lib.hid (RVar.ext V2_19.out hx68); have hc71a := V2_20.out.c0; have hc71b := V2_20.out.c1; have V5_20 := Lib.hid (RVar.ext V5_19.out hx68); have hc72a := V5_20.out.c0; have hc72b := V5_20.out.c1))
  have tok : True := trivial
  go_wp2_with (first | (go_at_call 39; clear tok; refine (lineTiling_c l0 _ _ (Own.ints ho68)).mono ?_; rintro e w73 ⟨v73, u73, rfl, ho73, hp73, ha73, hx73⟩; obtain ⟨A73, m73, c73, rfl⟩ := ho73.form; obtain ⟨A73', m73', c73', rfl⟩ := hp73.form; have Hn73 : Hid (RVar ((w73.alloc (.cells #[.int .i64 (ltN l0), (.slice A73 m73 c73)] 29)).alloc (.cells #[.int .i64 (ltN l0), (.slice A73' m73' c73')] 29)) (w73.heap.size + 1) (ltN l0) (.slice A73' m73' c73')) := (by unfold Hid; simpa only [World.size_alloc] using RVar.new (T := 29) (w73.alloc (.cells #[.int .i64 (ltN l0), (.slice A73 m73 c73)] 29)) (ltN l0) (.slice A73' m73' c73')); have V0_21 := Lib.hid (RVar.ext V0_20.out hx73); have V0_22 := Lib.hid (RVar.ext V0_21.out (one_box w73 (.cells #[.int .i64 (ltN l0), (.slice A73 m73 c73)] 29))); have V0_23 := Lib.hid (RVar.ext V0_22.out (one_box (w73.alloc (.cells #[.int .i64 (ltN l0), (.slice A73 m73 c73)] 29)) (.cells #[.int .i64 (ltN l0), (.slice A73' m73' c73')] 29))); have hc74a := V0_23.out.c0; have hc74b := V0_23.out.c1; have V1_21 := Lib.hid (RVar.ext V1_20.out hx73); have V1_22 := Lib.hid (RVar.ext V1_21.out (one_box w73 (.cells #[.int .i64 (ltN l0), (.slice A73 m73 c73)] 29))); have V1_23 := Lib.hid (RVar.ext V1_22.out (one_box (w73.alloc (.cells #[.int .i64 (ltN l0), (.slice A73 m73 c73)] 29)) (.cells #[.int .i64 (ltN l0), (.slice A73' m73' c73')] 29))); have hc75a := V1_23.out.c0; have hc75b := V1_23.out.c1; have V2_21 := Lib.hid (RVar.ext V2_20.out hx73); have V2_22 := Lib.hid (RVar.ext V2_21.out (one_box w73 (.cells #[.int .i64 (ltN l0), (.slice A73 m73 c73)] 29))); have V2_23 := Lib.hid (RVar.ext V2_22.out (one_box (w73.alloc (.cells #[.int .i64 (ltN l0), (.slice A73 m73 c73)] 29)) (.cells #[.int .i64 (ltN l0), (.slice A73' m73' c73')] 29))); have hc76a := V2_23.out.c0; have hc76b := V2_23.out.c1; have V5_21 := Lib.hid (RVar.ext V5_20.out hx73); have V5_22 := Lib.hid (RVar.ext V5_21.out (one_box w73 (.cells #[.int .i64 (ltN l0), (.slice A73 m73 c73)] 29))); have V5_23 := Lib.hid (RVar.ext V5_22.out (one_box (w73.alloc (.cells #[.int .i64 (ltN l0), (.slice A73 m73 c73)] 29)) (.cells #[.int .i64 (ltN l0), (.slice A73' m73' c73')] 29))); have hc77a := V5_23.out.c0; have hc77b := V5_23.out.c1; have V9_23 := Lib.hid (RVar.ext (RVar.new (T := 29) w73 (ltN l0) (.slice A73 m73 c73)) (one_box (w73.alloc (.cells #[.int .i64 (ltN l0), (.slice A73 m73 c73)] 29)) (.cells #[.int .i64 (ltN l0), (.slice A73' m73' c73')] 29))); have hc78a := V9_23.out.c0; have hc78b := V9_23.out.c1; have hc79a := Hn73.out.c0; have hc79b := Hn73.out.c1))
  have K10_22 := Lib.hid (Own.ext ho73 (one_box w73 (.cells #[.int .i64 (ltN l0), (.slice A73 m73 c73)] 29)))
  have K10_23 := Lib.hid (Own.ext K10_22.out (one_box (w73.alloc (.cells #[.int .i64 (ltN l0), (.slice A73 m73 c73)] 29)) (.cells #[.int .i64 (ltN l0), (.slice A73' m73' c73')] 29)))
  have K4_14 := Lib.hid (Own.ext K4_13.out hx38)
  have K4_15 := Lib.hid (Own.ext K4_14.out hx43)
  have K4_16 := Lib.hid (Own.kept K4_15.out hg48 (Own.apart K4_5.out ho8))
  have K4_17 := Lib.hid (Own.kept K4_16.out hg53 (Own.apart K4_5.out hp8))
  have K4_18 := Lib.hid (Own.ext K4_17.out hx58)
  have K4_19 := Lib.hid (Own.ext K4_18.out hx63)
  have K4_20 := Lib.hid (Own.ext K4_19.out hx68)
  have K4_21 := Lib.hid (Own.ext K4_20.out hx73)
  have K4_22 := Lib.hid (Own.ext K4_21.out (one_box w73 (.cells #[.int .i64 (ltN l0), (.slice A73 m73 c73)] 29)))
  have K4_23 := Lib.hid (Own.ext K4_22.out (one_box (w73.alloc (.cells #[.int .i64 (ltN l0), (.slice A73 m73 c73)] 29)) (.cells #[.int .i64 (ltN l0), (.slice A73' m73' c73')] 29)))
  have tok : True := trivial
  go_wp2_with (first | (go_at_call 22; clear tok; refine (eqRhythm_c (ltN l0) (ltN l0) (ltP l0) (ltP l0) _ _ _ (Own.ints K10_23.out) (Own.ints K4_23.out)).mono ?_; rintro e w80 ⟨b80, rfl, hb80, hx80⟩; obtain rfl := hb80.2 ⟨rfl, rfl⟩; clear hb80; have V0_24 := Lib.hid (RVar.ext V0_23.out hx80); have hc81a := V0_24.out.c0; have hc81b := V0_24.out.c1; have V1_24 := Lib.hid (RVar.ext V1_23.out hx80); have hc82a := V1_24.out.c0; have hc82b := V1_24.out.c1; have V2_24 := Lib.hid (RVar.ext V2_23.out hx80); have hc83a := V2_24.out.c0; have hc83b := V2_24.out.c1; have V5_24 := Lib.hid (RVar.ext V5_23.out hx80); have hc84a := V5_24.out.c0; have hc84b := V5_24.out.c1; have V9_24 := Lib.hid (RVar.ext V9_23.out hx80); have hc85a := V9_24.out.c0; have hc85b := V9_24.out.c1; have V11_24 := Lib.hid (RVar.ext Hn73.out hx80); have hc86a := V11_24.out.c0; have hc86b := V11_24.out.c1))
  have K12_22 := Lib.hid (Own.ext hp73 (one_box w73 (.cells #[.int .i64 (ltN l0), (.slice A73 m73 c73)] 29)))
  have K12_23 := Lib.hid (Own.ext K12_22.out (one_box (w73.alloc (.cells #[.int .i64 (ltN l0), (.slice A73 m73 c73)] 29)) (.cells #[.int .i64 (ltN l0), (.slice A73' m73' c73')] 29)))
  have K12_24 := Lib.hid (Own.ext K12_23.out hx80)
  have K7_15 := Lib.hid (Own.ext K7_14.out hx43)
  have K7_16 := Lib.hid (Own.kept K7_15.out hg48 (Own.apart K7_5.out ho8))
  have K7_17 := Lib.hid (Own.kept K7_16.out hg53 (Own.apart K7_5.out hp8))
  have K7_18 := Lib.hid (Own.ext K7_17.out hx58)
  have K7_19 := Lib.hid (Own.ext K7_18.out hx63)
  have K7_20 := Lib.hid (Own.ext K7_19.out hx68)
  have K7_21 := Lib.hid (Own.ext K7_20.out hx73)
  have K7_22 := Lib.hid (Own.ext K7_21.out (one_box w73 (.cells #[.int .i64 (ltN l0), (.slice A73 m73 c73)] 29)))
  have K7_23 := Lib.hid (Own.ext K7_22.out (one_box (w73.alloc (.cells #[.int .i64 (ltN l0), (.slice A73 m73 c73)] 29)) (.cells #[.int .i64 (ltN l0), (.slice A73' m73' c73')] 29)))
  have K7_24 := Lib.hid (Own.ext K7_23.out hx80)
  have tok : True := trivial
  go_wp2_with (first | (go_at_call 22; clear tok; refine (eqRhythm_c (ltN l0) (ltN l0) (ltE l0) (ltE l0) _ _ _ (Own.ints K12_24.out) (Own.ints K7_24.out)).mono ?_; rintro e w87 ⟨b87, rfl, hb87, hx87⟩; obtain rfl := hb87.2 ⟨rfl, rfl⟩; clear hb87; have V0_25 := Lib.hid (RVar.ext V0_24.out hx87); have hc88a := V0_25.out.c0; have hc88b := V0_25.out.c1; have V1_25 := Lib.hid (RVar.ext V1_24.out hx87); have hc89a := V1_25.out.c0; have hc89b := V1_25.out.c1; have V2_25 := Lib.hid (RVar.ext V2_24.out hx87); have hc90a := V2_25.out.c0; have hc90b := V2_25.out.c1; have V5_25 := Lib.hid (RVar.ext V5_24.out hx87); have hc91a := V5_25.out.c0; have hc91b := V5_25.out.c1; have V9_25 := Lib.hid (RVar.ext V9_24.out hx87); have hc92a := V9_25.out.c0; have hc92b := V9_25.out.c1; have V11_25 := Lib.hid (RVar.ext V11_24.out hx87); have hc93a := V11_25.out.c0; have hc93b := V11_25.out.c1))
  have K3_18 := Lib.hid (Own.ext K3_17.out hx58)
  have K3_19 := Lib.hid (Own.ext K3_18.out hx63)
  have K3_20 := Lib.hid (Own.ext K3_19.out hx68)
  have K3_21 := Lib.hid (Own.ext K3_20.out hx73)
  have K3_22 := Lib.hid (Own.ext K3_21.out (one_box w73 (.cells #[.int .i64 (ltN l0), (.slice A73 m73 c73)] 29)))
  have K3_23 := Lib.hid (Own.ext K3_22.out (one_box (w73.alloc (.cells #[.int .i64 (ltN l0), (.slice A73 m73 c73)] 29)) (.cells #[.int .i64 (ltN l0), (.slice A73' m73' c73')] 29)))
  have K3_24 := Lib.hid (Own.ext K3_23.out hx80)
  have K3_25 := Lib.hid (Own.ext K3_24.out hx87)
  have tok : True := trivial
  go_wp2_with (first | (go_at_call 24; clear tok; refine (heldRhythm_q ((ltP l0)).length (ltN l0) 1 _ _ (Own.ints K3_25.out) (by omega) (by omega)).mono ?_; rintro e w94 ⟨q94, rfl, hq94, hl94, hx94⟩; obtain rfl : q48 = q94 := hq48.out.trans hq94.out.symm; have V0_26 := Lib.hid (RVar.ext V0_25.out hx94); have hc95a := V0_26.out.c0; have hc95b := V0_26.out.c1; have V1_26 := Lib.hid (RVar.ext V1_25.out hx94); have hc96a := V1_26.out.c0; have hc96b := V1_26.out.c1; have V2_26 := Lib.hid (RVar.ext V2_25.out hx94); have hc97a := V2_26.out.c0; have hc97b := V2_26.out.c1; have V5_26 := Lib.hid (RVar.ext V5_25.out hx94); have hc98a := V5_26.out.c0; have hc98b := V5_26.out.c1; have V9_26 := Lib.hid (RVar.ext V9_25.out hx94); have hc99a := V9_26.out.c0; have hc99b := V9_26.out.c1; have V11_26 := Lib.hid (RVar.ext V11_25.out hx94); have hc100a := V11_26.out.c0; have hc100b := V11_26.out.c1))
  have K6_19 := Lib.hid (Own.ext K6_18.out hx63)
  have K6_20 := Lib.hid (Own.ext K6_19.out hx68)
  have K6_21 := Lib.hid (Own.ext K6_20.out hx73)
  have K6_22 := Lib.hid (Own.ext K6_21.out (one_box w73 (.cells #[.int .i64 (ltN l0), (.slice A73 m73 c73)] 29)))
  have K6_23 := Lib.hid (Own.ext K6_22.out (one_box (w73.alloc (.cells #[.int .i64 (ltN l0), (.slice A73 m73 c73)] 29)) (.cells #[.int .i64 (ltN l0), (.slice A73' m73' c73')] 29)))
  have K6_24 := Lib.hid (Own.ext K6_23.out hx80)
  have K6_25 := Lib.hid (Own.ext K6_24.out hx87)
  have K6_26 := Lib.hid (Own.ext K6_25.out hx94)
  have tok : True := trivial
  go_wp2_with (first | (go_at_call 24; clear tok; refine (heldRhythm_q ((ltE l0)).length (ltN l0) q48 _ _ (Own.ints K6_26.out) (by omega) (by omega)).mono ?_; rintro e w101 ⟨q101, rfl, hq101, hl101, hx101⟩; obtain rfl : q53 = q101 := hq53.out.trans hq101.out.symm; have V0_27 := Lib.hid (RVar.ext V0_26.out hx101); have hc102a := V0_27.out.c0; have hc102b := V0_27.out.c1; have V1_27 := Lib.hid (RVar.ext V1_26.out hx101); have hc103a := V1_27.out.c0; have hc103b := V1_27.out.c1; have V2_27 := Lib.hid (RVar.ext V2_26.out hx101); have hc104a := V2_27.out.c0; have hc104b := V2_27.out.c1; have V5_27 := Lib.hid (RVar.ext V5_26.out hx101); have hc105a := V5_27.out.c0; have hc105b := V5_27.out.c1; have V9_27 := Lib.hid (RVar.ext V9_26.out hx101); have hc106a := V9_27.out.c0; have hc106b := V9_27.out.c1; have V11_27 := Lib.hid (RVar.ext V11_26.out hx101); have hc107a := V11_27.out.c0; have hc107b := V11_27.out.c1))
  go_ret
  have X20 := Lib.hid (Ext.tr X19.out hx68)
  have X21 := Lib.hid (Ext.tr X20.out hx73)
  have X22 := Lib.hid (Ext.tr X21.out (one_box w73 (.cells #[.int .i64 (ltN l0), (.slice A73 m73 c73)] 29)))
  have X23 := Lib.hid (Ext.tr X22.out (one_box (w73.alloc (.cells #[.int .i64 (ltN l0), (.slice A73 m73 c73)] 29)) (.cells #[.int .i64 (ltN l0), (.slice A73' m73' c73')] 29)))
  have X24 := Lib.hid (Ext.tr X23.out hx80)
  have X25 := Lib.hid (Ext.tr X24.out hx87)
  have X26 := Lib.hid (Ext.tr X25.out hx94)
  have X27 := Lib.hid (Ext.tr X26.out hx101)
  exact ⟨rfl, X27.out⟩

namespace fnExactLineTilingGlue
set_option maxRecDepth 100000 in
theorem lifted (os : Os) (started : os.Started) (H : Type) (enc : TypeId × Value → H) :
    ReturnsInHanded {} Try.checked os 9 .any (Rows.fnExactLineTilingSpec.pre6 enc Try.prog Try.f9 Rows.fnExactLineTilingRow.domain false) (Rows.fnExactLineTilingSpec.post enc Try.prog Try.f9 false true false false) := by
  refine returnsInHanded_of_change (C := Try.checked) own started (by kernel_rfl) Try.func9
    (ChangeSpec.witness6 (enc := enc) (C := Try.checked) false ⟨#[], #[.slice none 0 0], []⟩ 8 (by kernel_rfl) (by kernel_rfl) (by kernel_rfl) (by kernel_rfl)) ?_
  intro W base args ds gs before hval0 hW hcnd _
  have hval : ∀ (j : Nat) t v, Try.f9.params[j]? = some t → args[j]? = some v → Value.okWide Try.prog W .any base t v := hval0
  have hW' := hW
  obtain ⟨p, q, hA0, hV, rfl, hfz, hnd⟩ := hW
  have hA : DataW.TrodAll enc Try.prog W 0 (fun _ => true) true Try.f9.params.toList args.toList ds p := hA0
  rw [Try.params9] at hA hval
  obtain ⟨v0, vs0, d0, ds0, p0, q0, hargs, rfl, rfl, h0, r0⟩ := trodAll_cons hA
  obtain ⟨rfl, rfl, rfl⟩ := trodAll_nil r0
  obtain rfl : args = #[v0] := by cases args; simp_all
  obtain ⟨rfl, rfl⟩ := trodVars_none hV
  have k0 := h0
  have lt0 : ∀ x ∈ p0, x.block < W.heap.size := by obtain ⟨m, hm⟩ := k0; exact DataW.trod_lt m _ _ _ hm
  obtain ⟨l0, w0⟩ := ints_in (hval 0 22 v0 rfl rfl) h0
  clear hA0 hval0
  refine (lawLineTiling_c l0 v0 W w0).mono fun e W' ⟨he, bel⟩ => ?_
  subst he
  exact ⟨_, rfl, _, _, _, [], _, [], hW', trodAll_mk1 (shut_bool Try.underlying4 _), (trodAll_cons_mk (Below.trod laidOut (by kernel_rfl) (of_decide_eq_true (by kernel_rfl)) k0 bel lt0) trodAll_mk0), rfl, bel.frame _, fun h => by cases h⟩
theorem over : Rows.fnExactLineTilingRow.holds Try.pinned (OpenSpec.ofChange Rows.fnExactLineTilingSpec) :=
  OpenClaim.holds_of_wide 9 Try.f9 rfl rfl rfl rfl rfl rfl rfl ⟨rfl, rfl, rfl, rfl, rfl⟩ rfl rfl rfl rfl rfl (by kernel_rfl) Try.func9 (by kernel_rfl)
    (of_decide_eq_true (by kernel_rfl)) (by unfold Func.isWrapper; first | (rw [if_pos (by decide +kernel)]; kernel_rfl) | (rw [if_neg (by decide +kernel)]; exact ⟨rfl, rfl⟩))
    (fun os started H enc _ => lifted os started H enc)
end fnExactLineTilingGlue
/-- THE STATEMENT. -/
theorem fnExactLineTiling_holds : Rows.FnExactLineTilingSaid := fnExactLineTilingGlue.over
#print axioms fnExactLineTiling_holds
end Go.Proofs.Ytaiigheknmndnaa
