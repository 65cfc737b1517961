/- For every canon the law FnExactFormatCanon returns true: the program's FormatCanon returns what the reference's returns, in new memory, and leaves its argument. Conditions: none beyond the row's own. -/
import Derived.Test.YtaiigheknmndnaaFfc
import Derived.Test.YtaiigheknmndnaaLawT
import Derived.Test.YtaiigheknmndnaaLawC
import Derived.Test.YtaiigheknmndnaaGlueC
namespace Go.Proofs.Ytaiigheknmndnaa
open Go.ChangeShapes Go.WideShapes Go.ChangeAt Go.RowKit
attribute [local irreducible] fcL
set_option maxHeartbeats 8000000 in
theorem lawFormatCanon_c (n0 : Int) (l0 : List Int) (v'0 : Value) (m0 : Int) (r0 : List Int) (u'0 : Value) (w : World) (_ : I64 n0) (hv0 : Ints w v'0 l0) (_ : I64 m0) (hu0 : Ints w u'0 r0) : Calls Try.prog 8 #[.agg #[.int .i64 n0, v'0, .int .i64 m0, u'0]] w fun e w' => e = .returned (.bool true) ∧ Ext w w' := by
  obtain ⟨A'0, c'0, hve0, hlc0, hcm0, hcell0⟩ := id hv0
  subst hve0
  have Hv0 := Lib.hid hv0
  clear hv0 hcell0
  obtain ⟨B'0, d'0, hue0, hld0, hdm0, hcell'0⟩ := id hu0
  subst hue0
  have Hu0 := Lib.hid hu0
  clear hu0 hcell'0
  have hp0 := CVar.new (T := 26) w n0 (.slice A'0 l0.length c'0) m0 (.slice B'0 r0.length d'0)
  have Hp0 := Lib.hid hp0
  clear hp0
  have X1 := Lib.hid (Ext.tr (Below.refl w.heap.size w) (one_box w (.cells #[.int .i64 n0, (.slice A'0 l0.length c'0), .int .i64 m0, (.slice B'0 r0.length d'0)] 26)))
  have hc1a := Hp0.out.c0
  have hc1b := Hp0.out.c1
  have hc1c := Hp0.out.c2
  have hc1d := Hp0.out.c3
  by_cases hle0 : l0.length + r0.length ≤ 1048576
  rotate_left
  · go_enter Try.func8, Try.ntmps8
    go_wp2_with (first | (go_at_call 11; refine (szCanon_f l0 r0 n0 m0 _ _ _ (Hv0.out.ext X1.out) (Hu0.out.ext X1.out) (by omega)).mono ?_; rintro e wz2 ⟨rfl, hz2⟩))
    go_ret
    exact ⟨rfl, Ext.tr X1.out hz2⟩
  have hF := fcL_len n0 m0 l0 r0
  have Hall := Lib.hid hF
  go_enter Try.func8, Try.ntmps8
  have tok : True := trivial
  go_wp2_with (first | (go_at_call 11; clear tok; refine (szCanon_t l0 r0 n0 m0 _ _ _ (Hv0.out.ext X1.out) (Hu0.out.ext X1.out) (by omega)).mono ?_; rintro e w3 ⟨q3, rfl, hq3a, hx3⟩; have V0_2 := Lib.hid (CVar.ext Hp0.out hx3); have hc4a := V0_2.out.c0; have hc4b := V0_2.out.c1; have hc4c := V0_2.out.c2; have hc4d := V0_2.out.c3))
  have X2 := Lib.hid (Ext.tr X1.out hx3)
  have tok : True := trivial
  go_wp2_with (first | (go_at_call 13; clear tok; refine (toCanon_c n0 m0 l0 r0 _ _ _ (Hv0.out.ext X2.out) (Hu0.out.ext X2.out) (by omega) (by omega)).mono ?_; rintro e w5 ⟨v5, u5, rfl, ho5, hp5, ha5, hx5⟩; obtain ⟨A5, m5, c5, rfl⟩ := ho5.form; obtain ⟨A5', m5', c5', rfl⟩ := hp5.form; have V0_3 := Lib.hid (CVar.ext V0_2.out hx5); have hc6a := V0_3.out.c0; have hc6b := V0_3.out.c1; have hc6c := V0_3.out.c2; have hc6d := V0_3.out.c3))
  have tok : True := trivial
  go_wp2_with (first | (go_at_call 32; clear tok; refine (specFormatCanon_c n0 m0 l0 r0 _ _ _ (Own.ints ho5) (Own.ints hp5)).mono ?_; rintro e w7 ⟨v7, us7, rfl, ho7, hx7⟩; have V0_4 := Lib.hid (CVar.ext V0_3.out hx7); have hc8a := V0_4.out.c0; have hc8b := V0_4.out.c1; have hc8c := V0_4.out.c2; have hc8d := V0_4.out.c3))
  have X3 := Lib.hid (Ext.tr X2.out hx5)
  have X4 := Lib.hid (Ext.tr X3.out hx7)
  have tok : True := trivial
  go_wp2_with (first | (go_at_call 13; clear tok; refine (toCanon_c n0 m0 l0 r0 _ _ _ (Hv0.out.ext X4.out) (Hu0.out.ext X4.out) (by omega) (by omega)).mono ?_; rintro e w9 ⟨v9, u9, rfl, ho9, hp9, ha9, hx9⟩; obtain ⟨A9, m9, c9, rfl⟩ := ho9.form; obtain ⟨A9', m9', c9', rfl⟩ := hp9.form; have V0_5 := Lib.hid (CVar.ext V0_4.out hx9); have V0_6 := Lib.hid (CVar.ext V0_5.out (one_box w9 (.cells #[.int .i64 n0, (.slice A9 m9 c9), .int .i64 m0, (.slice A9' m9' c9')] 31))); have hc10a := V0_6.out.c0; have hc10b := V0_6.out.c1; have hc10c := V0_6.out.c2; have hc10d := V0_6.out.c3; have hc11a := (CVar.new (T := 31) w9 n0 (.slice A9 m9 c9) m0 (.slice A9' m9' c9')).c0; have hc11b := (CVar.new (T := 31) w9 n0 (.slice A9 m9 c9) m0 (.slice A9' m9' c9')).c1; have hc11c := (CVar.new (T := 31) w9 n0 (.slice A9 m9 c9) m0 (.slice A9' m9' c9')).c2; have hc11d := (CVar.new (T := 31) w9 n0 (.slice A9 m9 c9) m0 (.slice A9' m9' c9')).c3))
  have K1_6 := Lib.hid (Own.ext ho9 (one_box w9 (.cells #[.int .i64 n0, (.slice A9 m9 c9), .int .i64 m0, (.slice A9' m9' c9')] 31)))
  have K2_6 := Lib.hid (Own.ext hp9 (one_box w9 (.cells #[.int .i64 n0, (.slice A9 m9 c9), .int .i64 m0, (.slice A9' m9' c9')] 31)))
  have tok : True := trivial
  go_wp2_with (first | (go_at_call 33; clear tok; refine (formatCanon_c n0 m0 l0 r0 _ _ _ (Own.ints K1_6.out) (Own.ints K2_6.out)).mono ?_; rintro e w12 ⟨v12, us12, rfl, ho12, hx12⟩; have V0_7 := Lib.hid (CVar.ext V0_6.out hx12); have hc13a := V0_7.out.c0; have hc13b := V0_7.out.c1; have hc13c := V0_7.out.c2; have hc13d := V0_7.out.c3; have V3_7 := Lib.hid (CVar.ext (CVar.new (T := 31) w9 n0 (.slice A9 m9 c9) m0 (.slice A9' m9' c9')) hx12); have hc14a := V3_7.out.c0; have hc14b := V3_7.out.c1; have hc14c := V3_7.out.c2; have hc14d := V3_7.out.c3))
  have K4_5 := Lib.hid (Sss.ext ho7 hx9)
  have K4_6 := Lib.hid (Sss.ext K4_5.out (one_box w9 (.cells #[.int .i64 n0, (.slice A9 m9 c9), .int .i64 m0, (.slice A9' m9' c9')] 31)))
  have K4_7 := Lib.hid (Sss.ext K4_6.out hx12)
  have tok : True := trivial
  go_wp2_with (first | (go_at_call 34; clear tok; refine (eqStringS_c (fcL n0 m0 l0 r0) (fcL n0 m0 l0 r0) _ _ _ _ _ _ _ ho12 K4_7.out (by omega)).mono ?_; rintro e w15 ⟨b15, rfl, hb15, hx15⟩; obtain rfl := hb15.2 rfl; clear hb15; have V0_8 := Lib.hid (CVar.ext V0_7.out hx15); have hc16a := V0_8.out.c0; have hc16b := V0_8.out.c1; have hc16c := V0_8.out.c2; have hc16d := V0_8.out.c3; have V3_8 := Lib.hid (CVar.ext V3_7.out hx15); have hc17a := V3_8.out.c0; have hc17b := V3_8.out.c1; have hc17c := V3_8.out.c2; have hc17d := V3_8.out.c3))
  have X5 := Lib.hid (Ext.tr X4.out hx9)
  have X6 := Lib.hid (Ext.tr X5.out (one_box w9 (.cells #[.int .i64 n0, (.slice A9 m9 c9), .int .i64 m0, (.slice A9' m9' c9')] 31)))
  have X7 := Lib.hid (Ext.tr X6.out hx12)
  have X8 := Lib.hid (Ext.tr X7.out hx15)
  have K1_7 := Lib.hid (Own.ext K1_6.out hx12)
  have K1_8 := Lib.hid (Own.ext K1_7.out hx15)
  have K2_7 := Lib.hid (Own.ext K2_6.out hx12)
  have K2_8 := Lib.hid (Own.ext K2_7.out hx15)
  go_wp2
  first
    | (go_region_held3 (fun w' => w'.cell? ⟨w9.heap.size, 0, none⟩ = some (.int .i64 n0) ∧ w'.cell? ⟨w9.heap.size, 1, none⟩ = some ((.slice A9 m9 c9)) ∧ w'.cell? ⟨w9.heap.size, 2, none⟩ = some (.int .i64 m0) ∧ w'.cell? ⟨w9.heap.size, 3, none⟩ = some ((.slice A9' m9' c9')) ∧ w'.cell? ⟨w.heap.size, 0, none⟩ = some (.int .i64 n0) ∧ w'.cell? ⟨w.heap.size, 1, none⟩ = some ((.slice A'0 l0.length c'0)) ∧ w'.cell? ⟨w.heap.size, 2, none⟩ = some (.int .i64 m0) ∧ w'.cell? ⟨w.heap.size, 3, none⟩ = some ((.slice B'0 r0.length d'0)))
        (first | with_reducible exact ⟨(CVar.ext (CVar.extD V3_8.out hx18a) hx18b).c0, (CVar.ext (CVar.extD V3_8.out hx18a) hx18b).c1, (CVar.ext (CVar.extD V3_8.out hx18a) hx18b).c2, (CVar.ext (CVar.extD V3_8.out hx18a) hx18b).c3, (CVar.ext (CVar.extD V0_8.out hx18a) hx18b).c0, (CVar.ext (CVar.extD V0_8.out hx18a) hx18b).c1, (CVar.ext (CVar.extD V0_8.out hx18a) hx18b).c2, (CVar.ext (CVar.extD V0_8.out hx18a) hx18b).c3⟩ | with_reducible exact ⟨(CVar.extD V3_8.out hx18a).c0, (CVar.extD V3_8.out hx18a).c1, (CVar.extD V3_8.out hx18a).c2, (CVar.extD V3_8.out hx18a).c3, (CVar.extD V0_8.out hx18a).c0, (CVar.extD V0_8.out hx18a).c1, (CVar.extD V0_8.out hx18a).c2, (CVar.extD V0_8.out hx18a).c3⟩ | (go_keep; done) | (refine ⟨?_, ?_, ?_, ?_, ?_, ?_, ?_, ?_⟩ <;> (go_keep; done)))
        (first
          | (go_at_call 13; refine (toCanon_c n0 m0 l0 r0 _ _ _ (Ints.drew (Hv0.out.ext X8.out)) (Ints.drew (Hu0.out.ext X8.out)) (by omega) (by omega)).mono ?_; rintro e w18a ⟨v18, u18, rfl, ho18, hp18, ha18, hx18a⟩; obtain ⟨A18, m18, c18, rfl⟩ := ho18.form; obtain ⟨A18', m18', c18', rfl⟩ := hp18.form)
          | (go_at_call 16; refine (eqCanon_c n0 m0 n0 m0 l0 r0 l0 r0 _ _ _ _ _ (Own.ints (Own.ext K1_8.out (Ext.ofD hx18a))) (Own.ints (Own.ext K2_8.out (Ext.ofD hx18a))) (Own.ints ho18) (Own.ints hp18)).mono ?_; rintro e w18b ⟨b18, rfl, hb18, hx18b⟩; obtain rfl := hb18.2 ⟨rfl, rfl, rfl, rfl⟩; clear hb18)))
    | fail
  have V0_9 := Lib.hid (CVar.ext V0_8.out (Ext.ofD hx18a))
  have V0_10 := Lib.hid (CVar.ext V0_9.out hx18b)
  have hc19a := V0_10.out.c0
  have hc19b := V0_10.out.c1
  have hc19c := V0_10.out.c2
  have hc19d := V0_10.out.c3
  have V3_9 := Lib.hid (CVar.ext V3_8.out (Ext.ofD hx18a))
  have V3_10 := Lib.hid (CVar.ext V3_9.out hx18b)
  have hc20a := V3_10.out.c0
  have hc20b := V3_10.out.c1
  have hc20c := V3_10.out.c2
  have hc20d := V3_10.out.c3
  have K1_9 := Lib.hid (Own.ext K1_8.out (Ext.ofD hx18a))
  have K1_10 := Lib.hid (Own.ext K1_9.out hx18b)
  have K2_9 := Lib.hid (Own.ext K2_8.out (Ext.ofD hx18a))
  have K2_10 := Lib.hid (Own.ext K2_9.out hx18b)
  have tok : True := trivial
  go_wp2_with (first | (go_at_call 17; clear tok; refine (markCanon_c l0 r0 n0 m0 1 _ _ _ K1_10.out K2_10.out ha9 (by omega) (by omega) (by omega)).mono ?_; rintro e w21 ⟨q21, w21a, rfl, hq21, hl21, hm21a, hg21a, hm21, hg21⟩; have V0_11 := Lib.hid (CVar.kept V0_10.out hg21a (Own.ne_lt ho9 (Nat.lt_of_lt_of_le Hp0.out.lt (Nat.le_trans (Nat.le_trans (Nat.le_trans (Nat.le_refl _) hx3.size) hx5.size) hx7.size)))); have V0_12 := Lib.hid (CVar.kept V0_11.out hg21 (Own.ne_lt hp9 (Nat.lt_of_lt_of_le Hp0.out.lt (Nat.le_trans (Nat.le_trans (Nat.le_trans (Nat.le_refl _) hx3.size) hx5.size) hx7.size)))); have hc22a := V0_12.out.c0; have hc22b := V0_12.out.c1; have hc22c := V0_12.out.c2; have hc22d := V0_12.out.c3; have V3_11 := Lib.hid (CVar.kept V3_10.out hg21a (Own.ne_ge ho9 (Nat.le_refl _))); have V3_12 := Lib.hid (CVar.kept V3_11.out hg21 (Own.ne_ge hp9 (Nat.le_refl _))); have hc23a := V3_12.out.c0; have hc23b := V3_12.out.c1; have hc23c := V3_12.out.c2; have hc23d := V3_12.out.c3))
  have K5_8 := Lib.hid (Sss.ext ho12 hx15)
  have K5_9 := Lib.hid (Sss.ext K5_8.out (Ext.ofD hx18a))
  have K5_10 := Lib.hid (Sss.ext K5_9.out hx18b)
  have K5_11 := Lib.hid (Sss.keptLow K5_10.out hg21a (fun k hk => (K1_6.out.lt k hk).2))
  have K5_12 := Lib.hid (Sss.keptLow K5_11.out hg21 (fun k hk => (K2_6.out.lt k hk).2))
  have K4_8 := Lib.hid (Sss.ext K4_7.out hx15)
  have K4_9 := Lib.hid (Sss.ext K4_8.out (Ext.ofD hx18a))
  have K4_10 := Lib.hid (Sss.ext K4_9.out hx18b)
  have K4_11 := Lib.hid (Sss.keptHigh ho7 K4_10.out hg21a (fun k hk => (ho9.lt k hk).1))
  have K4_12 := Lib.hid (Sss.keptHigh ho7 K4_11.out hg21 (fun k hk => (hp9.lt k hk).1))
  have tok : True := trivial
  go_wp2_with (first | (go_at_call 34; clear tok; refine (eqStringS_c (fcL n0 m0 l0 r0) (fcL n0 m0 l0 r0) _ _ _ _ _ _ _ K5_12.out K4_12.out (by omega)).mono ?_; rintro e w24 ⟨b24, rfl, hb24, hx24⟩; obtain rfl := hb24.2 rfl; clear hb24; have V0_13 := Lib.hid (CVar.ext V0_12.out hx24); have hc25a := V0_13.out.c0; have hc25b := V0_13.out.c1; have hc25c := V0_13.out.c2; have hc25d := V0_13.out.c3; have V3_13 := Lib.hid (CVar.ext V3_12.out hx24); have hc26a := V3_13.out.c0; have hc26b := V3_13.out.c1; have hc26c := V3_13.out.c2; have hc26d := V3_13.out.c3))
  have K5_13 := Lib.hid (Sss.ext K5_12.out hx24)
  have tok : True := trivial
  go_wp2_with (first | (go_at_call 35; clear tok; refine (markStringS_c (fcL n0 m0 l0 r0) 1 _ _ _ _ K5_13.out (by omega) (by omega) (by omega)).mono ?_; rintro e w27 ⟨q27, us27, rfl, hq27, hl27, hmw27, hbw27⟩; have V0_14 := Lib.hid (CVar.keptB V0_13.out (Nat.lt_of_lt_of_le Hp0.out.lt (Nat.le_trans (Nat.le_trans (Nat.le_trans (Nat.le_trans (Nat.le_trans (Nat.le_refl _) hx3.size) hx5.size) hx7.size) hx9.size) (one_box w9 (.cells #[.int .i64 n0, (.slice A9 m9 c9), .int .i64 m0, (.slice A9' m9' c9')] 31)).size)) hbw27); have hc28a := V0_14.out.c0; have hc28b := V0_14.out.c1; have hc28c := V0_14.out.c2; have hc28d := V0_14.out.c3; have V3_14 := Lib.hid (CVar.keptB V3_13.out (Nat.lt_of_lt_of_le (CVar.new (T := 31) w9 n0 (.slice A9 m9 c9) m0 (.slice A9' m9' c9')).lt (Nat.le_refl _)) hbw27); have hc29a := V3_14.out.c0; have hc29b := V3_14.out.c1; have hc29c := V3_14.out.c2; have hc29d := V3_14.out.c3))
  have K5_14 := Lib.hid hmw27
  have tok : True := trivial
  go_wp2_with (first | (go_at_call 36; clear tok; refine (heldStringS_c (fcL n0 m0 l0 r0) 1 _ _ _ _ K5_14.out (by omega) (by omega) (by omega)).mono ?_; rintro e w30 ⟨q30, rfl, hq30, hx30⟩; obtain rfl : q27 = q30 := hq27.out.trans hq30.out.symm; have V0_15 := Lib.hid (CVar.ext V0_14.out hx30); have hc31a := V0_15.out.c0; have hc31b := V0_15.out.c1; have hc31c := V0_15.out.c2; have hc31d := V0_15.out.c3; have V3_15 := Lib.hid (CVar.ext V3_14.out hx30); have hc32a := V3_15.out.c0; have hc32b := V3_15.out.c1; have hc32c := V3_15.out.c2; have hc32d := V3_15.out.c3))
  have X9 := Lib.hid (Ext.tr X8.out (Ext.ofD hx18a))
  have X10 := Lib.hid (Ext.tr X9.out hx18b)
  have X11 := Lib.hid (Ext.mark X10.out K1_10.out hg21a X4.out.size)
  have K2_11 := Lib.hid (Own.kept K2_10.out hg21a (Apart.rowC ha9))
  have X12 := Lib.hid (Ext.mark X11.out K2_11.out hg21 X4.out.size)
  have X13 := Lib.hid (Ext.tr X12.out hx24)
  have X14 := Lib.hid (Ext.markT X13.out hbw27 X6.out.size)
  have X15 := Lib.hid (Ext.tr X14.out hx30)
  have tok : True := trivial
  go_wp2_with (first | (go_at_call 13; clear tok; refine (toCanon_c n0 m0 l0 r0 _ _ _ (Hv0.out.ext X15.out) (Hu0.out.ext X15.out) (by omega) (by omega)).mono ?_; rintro e w33 ⟨v33, u33, rfl, ho33, hp33, ha33, hx33⟩; obtain ⟨A33, m33, c33, rfl⟩ := ho33.form; obtain ⟨A33', m33', c33', rfl⟩ := hp33.form; have V0_16 := Lib.hid (CVar.ext V0_15.out hx33); have hc34a := V0_16.out.c0; have hc34b := V0_16.out.c1; have hc34c := V0_16.out.c2; have hc34d := V0_16.out.c3; have V3_16 := Lib.hid (CVar.ext V3_15.out hx33); have hc35a := V3_16.out.c0; have hc35b := V3_16.out.c1; have hc35c := V3_16.out.c2; have hc35d := V3_16.out.c3))
  have tok : True := trivial
  go_wp2_with (first | (go_at_call 33; clear tok; refine (formatCanon_c n0 m0 l0 r0 _ _ _ (Own.ints ho33) (Own.ints hp33)).mono ?_; rintro e w36 ⟨v36, us36, rfl, ho36, hx36⟩; have V0_17 := Lib.hid (CVar.ext V0_16.out hx36); have hc37a := V0_17.out.c0; have hc37b := V0_17.out.c1; have hc37c := V0_17.out.c2; have hc37d := V0_17.out.c3; have V3_17 := Lib.hid (CVar.ext V3_16.out hx36); have hc38a := V3_17.out.c0; have hc38b := V3_17.out.c1; have hc38c := V3_17.out.c2; have hc38d := V3_17.out.c3))
  have K4_13 := Lib.hid (Sss.ext K4_12.out hx24)
  have K4_14 := Lib.hid (Sss.keptB K4_13.out K4_6.out hbw27)
  have K4_15 := Lib.hid (Sss.ext K4_14.out hx30)
  have K4_16 := Lib.hid (Sss.ext K4_15.out hx33)
  have K4_17 := Lib.hid (Sss.ext K4_16.out hx36)
  have tok : True := trivial
  go_wp2_with (first | (go_at_call 34; clear tok; refine (eqStringS_c (fcL n0 m0 l0 r0) (fcL n0 m0 l0 r0) _ _ _ _ _ _ _ ho36 K4_17.out (by omega)).mono ?_; rintro e w39 ⟨b39, rfl, hb39, hx39⟩; obtain rfl := hb39.2 rfl; clear hb39; have V0_18 := Lib.hid (CVar.ext V0_17.out hx39); have hc40a := V0_18.out.c0; have hc40b := V0_18.out.c1; have hc40c := V0_18.out.c2; have hc40d := V0_18.out.c3; have V3_18 := Lib.hid (CVar.ext V3_17.out hx39); have hc41a := V3_18.out.c0; have hc41b := V3_18.out.c1; have hc41c := V3_18.out.c2; have hc41d := V3_18.out.c3))
  have K5_15 := Lib.hid (Sss.ext K5_14.out hx30)
  have K5_16 := Lib.hid (Sss.ext K5_15.out hx33)
  have K5_17 := Lib.hid (Sss.ext K5_16.out hx36)
  have K5_18 := Lib.hid (Sss.ext K5_17.out hx39)
  have tok : True := trivial
  go_wp2_with (first | (go_at_call 36; clear tok; refine (heldStringS_c (fcL n0 m0 l0 r0) 1 _ _ _ _ K5_18.out (by omega) (by omega) (by omega)).mono ?_; rintro e w42 ⟨q42, rfl, hq42, hx42⟩; obtain rfl : q27 = q42 := hq27.out.trans hq42.out.symm; have V0_19 := Lib.hid (CVar.ext V0_18.out hx42); have hc43a := V0_19.out.c0; have hc43b := V0_19.out.c1; have hc43c := V0_19.out.c2; have hc43d := V0_19.out.c3; have V3_19 := Lib.hid (CVar.ext V3_18.out hx42); have hc44a := V3_19.out.c0; have hc44b := V3_19.out.c1; have hc44c := V3_19.out.c2; have hc44d := V3_19.out.c3))
  go_ret
  have X16 := Lib.hid (Ext.tr X15.out hx33)
  have X17 := Lib.hid (Ext.tr X16.out hx36)
  have X18 := Lib.hid (Ext.tr X17.out hx39)
  have X19 := Lib.hid (Ext.tr X18.out hx42)
  exact ⟨rfl, X19.out⟩

namespace fnExactFormatCanonGlue
set_option maxRecDepth 100000 in
theorem lifted (os : Os) (started : os.Started) (H : Type) (enc : TypeId × Value → H) :
    ReturnsInHanded {} Try.checked os 8 .any (Rows.fnExactFormatCanonSpec.pre6 enc Try.prog Try.f8 Rows.fnExactFormatCanonRow.domain false) (Rows.fnExactFormatCanonSpec.post enc Try.prog Try.f8 false true false false) := by
  refine returnsInHanded_of_change (C := Try.checked) own started (by kernel_rfl) Try.func8
    (ChangeSpec.witness6 (enc := enc) (C := Try.checked) false ⟨#[], #[.agg #[.int .i64 0, .slice none 0 0, .int .i64 0, .slice none 0 0]], []⟩ 8 (by kernel_rfl) (by kernel_rfl) (by kernel_rfl) (by kernel_rfl)) ?_
  intro W base args ds gs before hval0 hW hcnd _
  have hval : ∀ (j : Nat) t v, Try.f8.params[j]? = some t → args[j]? = some v → Value.okWide Try.prog W .any base t v := hval0
  have hW' := hW
  obtain ⟨p, q, hA0, hV, rfl, hfz, hnd⟩ := hW
  have hA : DataW.TrodAll enc Try.prog W 0 (fun _ => true) true Try.f8.params.toList args.toList ds p := hA0
  rw [Try.params8] at hA hval
  obtain ⟨v0, vs0, d0, ds0, p0, q0, hargs, rfl, rfl, h0, r0⟩ := trodAll_cons hA
  obtain ⟨rfl, rfl, rfl⟩ := trodAll_nil r0
  obtain rfl : args = #[v0] := by cases args; simp_all
  obtain ⟨rfl, rfl⟩ := trodVars_none hV
  have k0 := h0
  have lt0 : ∀ x ∈ p0, x.block < W.heap.size := by obtain ⟨m, hm⟩ := k0; exact DataW.trod_lt m _ _ _ hm
  obtain ⟨cn0, cu0, cl0, cm0, cz0, cr0, rfl, wa0, wb0, wc0, wd0⟩ := can_in (hval 0 26 v0 rfl rfl) h0
  clear hA0 hval0
  refine (lawFormatCanon_c cn0 cl0 cu0 cm0 cr0 cz0 W wa0 wb0 wc0 wd0).mono fun e W' ⟨he, bel⟩ => ?_
  subst he
  exact ⟨_, rfl, _, _, _, [], _, [], hW', trodAll_mk1 (shut_bool Try.underlying4 _), (trodAll_cons_mk (Below.trod laidOut (by kernel_rfl) (of_decide_eq_true (by kernel_rfl)) k0 bel lt0) trodAll_mk0), rfl, bel.frame _, fun h => by cases h⟩
theorem over : Rows.fnExactFormatCanonRow.holds Try.pinned (OpenSpec.ofChange Rows.fnExactFormatCanonSpec) :=
  OpenClaim.holds_of_wide 8 Try.f8 rfl rfl rfl rfl rfl rfl rfl ⟨rfl, rfl, rfl, rfl, rfl⟩ rfl rfl rfl rfl rfl (by kernel_rfl) Try.func8 (by kernel_rfl)
    (of_decide_eq_true (by kernel_rfl)) (by unfold Func.isWrapper; first | (rw [if_pos (by decide +kernel)]; kernel_rfl) | (rw [if_neg (by decide +kernel)]; exact ⟨rfl, rfl⟩))
    (fun os started H enc _ => lifted os started H enc)
end fnExactFormatCanonGlue
/-- THE STATEMENT. -/
theorem fnExactFormatCanon_holds : Rows.FnExactFormatCanonSaid := fnExactFormatCanonGlue.over
#print axioms fnExactFormatCanon_holds
end Go.Proofs.Ytaiigheknmndnaa
