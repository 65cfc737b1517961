/- For every canon and every int the law FnExactStretchCanon returns true: the program's StretchCanon returns what the reference's returns, in new memory, and leaves its argument. Conditions: none beyond the row's own. -/
import Derived.Test.YtaiigheknmndnaaFse
import Derived.Test.YtaiigheknmndnaaLawC
import Derived.Test.YtaiigheknmndnaaGlueC
namespace Go.Proofs.Ytaiigheknmndnaa
open Go.ChangeShapes Go.WideShapes Go.ChangeAt Go.RowKit
attribute [local irreducible] scN scI scO scB
set_option maxHeartbeats 8000000 in
theorem lawStretchCanon_c (n0 : Int) (l0 : List Int) (v'0 : Value) (m0 : Int) (r0 : List Int) (u'0 : Value) (a1 : Int) (w : World) (_ : I64 n0) (hv0 : Ints w v'0 l0) (_ : I64 m0) (hu0 : Ints w u'0 r0) (_ : I64 a1) : Calls Try.prog 7 #[.agg #[.int .i64 n0, v'0, .int .i64 m0, u'0], .int .i64 a1] w fun e w' => e = .returned (.bool true) ∧ Ext w w' := by
  obtain ⟨A'0, c'0, hve0, hlc0, hcm0, hcell0⟩ := id hv0
  subst hve0
  have Hv0 := Lib.hid hv0
  clear hv0 hcell0
  obtain ⟨B'0, d'0, hue0, hld0, hdm0, hcell'0⟩ := id hu0
  subst hue0
  have Hu0 := Lib.hid hu0
  clear hu0 hcell'0
  have hp0 := CVar.new (T := 26) w n0 (.slice A'0 l0.length c'0) m0 (.slice B'0 r0.length d'0)
  have Hp0 := Lib.hid hp0
  clear hp0
  have X1 := Lib.hid (Ext.tr (Below.refl w.heap.size w) (one_box w (.cells #[.int .i64 n0, (.slice A'0 l0.length c'0), .int .i64 m0, (.slice B'0 r0.length d'0)] 26)))
  have hc1a := Hp0.out.c0
  have hc1b := Hp0.out.c1
  have hc1c := Hp0.out.c2
  have hc1d := Hp0.out.c3
  by_cases hle0 : l0.length + r0.length ≤ 1048576
  rotate_left
  · go_enter Try.func7, Try.ntmps7
    go_wp2_with (first | (go_at_call 11; refine (szCanon_f l0 r0 n0 m0 _ _ _ (Hv0.out.ext X1.out) (Hu0.out.ext X1.out) (by omega)).mono ?_; rintro e wz2 ⟨rfl, hz2⟩))
    go_ret
    exact ⟨rfl, Ext.tr X1.out hz2⟩
  have hF := (sc_len n0 m0 l0 r0 a1).1
  have hF2 := (sc_len n0 m0 l0 r0 a1).2
  have hFB : ((scB n0 m0 l0 r0 a1) != (scB n0 m0 l0 r0 a1)) = false := by simp
  go_enter Try.func7, Try.ntmps7
  have tok : True := trivial
  go_wp2_with (first | (go_at_call 11; clear tok; refine (szCanon_t l0 r0 n0 m0 _ _ _ (Hv0.out.ext X1.out) (Hu0.out.ext X1.out) (by omega)).mono ?_; rintro e w3 ⟨q3, rfl, hq3a, hx3⟩; have V0_2 := Lib.hid (CVar.ext Hp0.out hx3); have hc4a := V0_2.out.c0; have hc4b := V0_2.out.c1; have hc4c := V0_2.out.c2; have hc4d := V0_2.out.c3))
  have X2 := Lib.hid (Ext.tr X1.out hx3)
  have tok : True := trivial
  go_wp2_with (first | (go_at_call 13; clear tok; refine (toCanon_c n0 m0 l0 r0 _ _ _ (Hv0.out.ext X2.out) (Hu0.out.ext X2.out) (by omega) (by omega)).mono ?_; rintro e w5 ⟨v5, u5, rfl, ho5, hp5, ha5, hx5⟩; obtain ⟨A5, m5, c5, rfl⟩ := ho5.form; obtain ⟨A5', m5', c5', rfl⟩ := hp5.form; have V0_3 := Lib.hid (CVar.ext V0_2.out hx5); have hc6a := V0_3.out.c0; have hc6b := V0_3.out.c1; have hc6c := V0_3.out.c2; have hc6d := V0_3.out.c3))
  have tok : True := trivial
  go_wp2_with (first | (go_at_call 30; clear tok; refine (specStretchCanon_c n0 m0 l0 r0 a1 _ _ _ (Own.ints ho5) (Own.ints hp5)).mono ?_; rintro e w7 ⟨v7, u7, rfl, ho7, hp7, ha7, hx7⟩; obtain ⟨A7, m7, c7, rfl⟩ := ho7.form; obtain ⟨A7', m7', c7', rfl⟩ := hp7.form; have V0_4 := Lib.hid (CVar.ext V0_3.out hx7); have V0_5 := Lib.hid (CVar.ext V0_4.out (one_box w7 (.cells #[.int .i64 (scN n0 m0 l0 r0 a1), (.slice A7 m7 c7), .int .i64 (scN n0 m0 l0 r0 a1), (.slice A7' m7' c7')] 31))); have hc8a := V0_5.out.c0; have hc8b := V0_5.out.c1; have hc8c := V0_5.out.c2; have hc8d := V0_5.out.c3; have hc9a := (CVar.new (T := 31) w7 (scN n0 m0 l0 r0 a1) (.slice A7 m7 c7) (scN n0 m0 l0 r0 a1) (.slice A7' m7' c7')).c0; have hc9b := (CVar.new (T := 31) w7 (scN n0 m0 l0 r0 a1) (.slice A7 m7 c7) (scN n0 m0 l0 r0 a1) (.slice A7' m7' c7')).c1; have hc9c := (CVar.new (T := 31) w7 (scN n0 m0 l0 r0 a1) (.slice A7 m7 c7) (scN n0 m0 l0 r0 a1) (.slice A7' m7' c7')).c2; have hc9d := (CVar.new (T := 31) w7 (scN n0 m0 l0 r0 a1) (.slice A7 m7 c7) (scN n0 m0 l0 r0 a1) (.slice A7' m7' c7')).c3))
  have X3 := Lib.hid (Ext.tr X2.out hx5)
  have X4 := Lib.hid (Ext.tr X3.out hx7)
  have X5 := Lib.hid (Ext.tr X4.out (one_box w7 (.cells #[.int .i64 (scN n0 m0 l0 r0 a1), (.slice A7 m7 c7), .int .i64 (scN n0 m0 l0 r0 a1), (.slice A7' m7' c7')] 31)))
  have tok : True := trivial
  go_wp2_with (first | (go_at_call 13; clear tok; refine (toCanon_c n0 m0 l0 r0 _ _ _ (Hv0.out.ext X5.out) (Hu0.out.ext X5.out) (by omega) (by omega)).mono ?_; rintro e w10 ⟨v10, u10, rfl, ho10, hp10, ha10, hx10⟩; obtain ⟨A10, m10, c10, rfl⟩ := ho10.form; obtain ⟨A10', m10', c10', rfl⟩ := hp10.form; have V0_6 := Lib.hid (CVar.ext V0_5.out hx10); have V0_7 := Lib.hid (CVar.ext V0_6.out (one_box w10 (.cells #[.int .i64 n0, (.slice A10 m10 c10), .int .i64 m0, (.slice A10' m10' c10')] 31))); have hc11a := V0_7.out.c0; have hc11b := V0_7.out.c1; have hc11c := V0_7.out.c2; have hc11d := V0_7.out.c3; have V1_6 := Lib.hid (CVar.ext (CVar.new (T := 31) w7 (scN n0 m0 l0 r0 a1) (.slice A7 m7 c7) (scN n0 m0 l0 r0 a1) (.slice A7' m7' c7')) hx10); have V1_7 := Lib.hid (CVar.ext V1_6.out (one_box w10 (.cells #[.int .i64 n0, (.slice A10 m10 c10), .int .i64 m0, (.slice A10' m10' c10')] 31))); have hc12a := V1_7.out.c0; have hc12b := V1_7.out.c1; have hc12c := V1_7.out.c2; have hc12d := V1_7.out.c3; have hc13a := (CVar.new (T := 31) w10 n0 (.slice A10 m10 c10) m0 (.slice A10' m10' c10')).c0; have hc13b := (CVar.new (T := 31) w10 n0 (.slice A10 m10 c10) m0 (.slice A10' m10' c10')).c1; have hc13c := (CVar.new (T := 31) w10 n0 (.slice A10 m10 c10) m0 (.slice A10' m10' c10')).c2; have hc13d := (CVar.new (T := 31) w10 n0 (.slice A10 m10 c10) m0 (.slice A10' m10' c10')).c3))
  have K2_7 := Lib.hid (Own.ext ho10 (one_box w10 (.cells #[.int .i64 n0, (.slice A10 m10 c10), .int .i64 m0, (.slice A10' m10' c10')] 31)))
  have K3_7 := Lib.hid (Own.ext hp10 (one_box w10 (.cells #[.int .i64 n0, (.slice A10 m10 c10), .int .i64 m0, (.slice A10' m10' c10')] 31)))
  have tok : True := trivial
  go_wp2_with (first | (go_at_call 31; clear tok; refine (stretchCanon_c n0 m0 l0 r0 a1 _ _ _ (Own.ints K2_7.out) (Own.ints K3_7.out)).mono ?_; rintro e w14 ⟨v14, u14, rfl, ho14, hp14, ha14, hx14⟩; obtain ⟨A14, m14, c14, rfl⟩ := ho14.form; obtain ⟨A14', m14', c14', rfl⟩ := hp14.form; have V0_8 := Lib.hid (CVar.ext V0_7.out hx14); have V0_9 := Lib.hid (CVar.ext V0_8.out (one_box w14 (.cells #[.int .i64 (scN n0 m0 l0 r0 a1), (.slice A14 m14 c14), .int .i64 (scN n0 m0 l0 r0 a1), (.slice A14' m14' c14')] 31))); have hc15a := V0_9.out.c0; have hc15b := V0_9.out.c1; have hc15c := V0_9.out.c2; have hc15d := V0_9.out.c3; have V1_8 := Lib.hid (CVar.ext V1_7.out hx14); have V1_9 := Lib.hid (CVar.ext V1_8.out (one_box w14 (.cells #[.int .i64 (scN n0 m0 l0 r0 a1), (.slice A14 m14 c14), .int .i64 (scN n0 m0 l0 r0 a1), (.slice A14' m14' c14')] 31))); have hc16a := V1_9.out.c0; have hc16b := V1_9.out.c1; have hc16c := V1_9.out.c2; have hc16d := V1_9.out.c3; have V4_8 := Lib.hid (CVar.ext (CVar.new (T := 31) w10 n0 (.slice A10 m10 c10) m0 (.slice A10' m10' c10')) hx14); have V4_9 := Lib.hid (CVar.ext V4_8.out (one_box w14 (.cells #[.int .i64 (scN n0 m0 l0 r0 a1), (.slice A14 m14 c14), .int .i64 (scN n0 m0 l0 r0 a1), (.slice A14' m14' c14')] 31))); have hc17a := V4_9.out.c0; have hc17b := V4_9.out.c1; have hc17c := V4_9.out.c2; have hc17d := V4_9.out.c3; have hc18a := (CVar.new (T := 31) w14 (scN n0 m0 l0 r0 a1) (.slice A14 m14 c14) (scN n0 m0 l0 r0 a1) (.slice A14' m14' c14')).c0; have hc18b := (CVar.new (T := 31) w14 (scN n0 m0 l0 r0 a1) (.slice A14 m14 c14) (scN n0 m0 l0 r0 a1) (.slice A14' m14' c14')).c1; have hc18c := (CVar.new (T := 31) w14 (scN n0 m0 l0 r0 a1) (.slice A14 m14 c14) (scN n0 m0 l0 r0 a1) (.slice A14' m14' c14')).c2; have hc18d := (CVar.new (T := 31) w14 (scN n0 m0 l0 r0 a1) (.slice A14 m14 c14) (scN n0 m0 l0 r0 a1) (.slice A14' m14' c14')).c3))
  have K5_9 := Lib.hid (Own.ext ho14 (one_box w14 (.cells #[.int .i64 (scN n0 m0 l0 r0 a1), (.slice A14 m14 c14), .int .i64 (scN n0 m0 l0 r0 a1), (.slice A14' m14' c14')] 31)))
  have K6_9 := Lib.hid (Own.ext hp14 (one_box w14 (.cells #[.int .i64 (scN n0 m0 l0 r0 a1), (.slice A14 m14 c14), .int .i64 (scN n0 m0 l0 r0 a1), (.slice A14' m14' c14')] 31)))
  have K7_5 := Lib.hid (Own.ext ho7 (one_box w7 (.cells #[.int .i64 (scN n0 m0 l0 r0 a1), (.slice A7 m7 c7), .int .i64 (scN n0 m0 l0 r0 a1), (.slice A7' m7' c7')] 31)))
  have K7_6 := Lib.hid (Own.ext K7_5.out hx10)
  have K7_7 := Lib.hid (Own.ext K7_6.out (one_box w10 (.cells #[.int .i64 n0, (.slice A10 m10 c10), .int .i64 m0, (.slice A10' m10' c10')] 31)))
  have K7_8 := Lib.hid (Own.ext K7_7.out hx14)
  have K7_9 := Lib.hid (Own.ext K7_8.out (one_box w14 (.cells #[.int .i64 (scN n0 m0 l0 r0 a1), (.slice A14 m14 c14), .int .i64 (scN n0 m0 l0 r0 a1), (.slice A14' m14' c14')] 31)))
  have K8_5 := Lib.hid (Own.ext hp7 (one_box w7 (.cells #[.int .i64 (scN n0 m0 l0 r0 a1), (.slice A7 m7 c7), .int .i64 (scN n0 m0 l0 r0 a1), (.slice A7' m7' c7')] 31)))
  have K8_6 := Lib.hid (Own.ext K8_5.out hx10)
  have K8_7 := Lib.hid (Own.ext K8_6.out (one_box w10 (.cells #[.int .i64 n0, (.slice A10 m10 c10), .int .i64 m0, (.slice A10' m10' c10')] 31)))
  have K8_8 := Lib.hid (Own.ext K8_7.out hx14)
  have K8_9 := Lib.hid (Own.ext K8_8.out (one_box w14 (.cells #[.int .i64 (scN n0 m0 l0 r0 a1), (.slice A14 m14 c14), .int .i64 (scN n0 m0 l0 r0 a1), (.slice A14' m14' c14')] 31)))
  have tok : True := trivial
  go_wp2_with (first | (go_at_call 16; clear tok; refine (eqCanon_c (scN n0 m0 l0 r0 a1) (scN n0 m0 l0 r0 a1) (scN n0 m0 l0 r0 a1) (scN n0 m0 l0 r0 a1) (scI n0 m0 l0 r0 a1) (scO n0 m0 l0 r0 a1) (scI n0 m0 l0 r0 a1) (scO n0 m0 l0 r0 a1) _ _ _ _ _ (Own.ints K5_9.out) (Own.ints K6_9.out) (Own.ints K7_9.out) (Own.ints K8_9.out)).mono ?_; rintro e w19 ⟨b19, rfl, hb19, hx19⟩; obtain rfl := hb19.2 ⟨rfl, rfl, rfl, rfl⟩; clear hb19; have V0_10 := Lib.hid (CVar.ext V0_9.out hx19); have hc20a := V0_10.out.c0; have hc20b := V0_10.out.c1; have hc20c := V0_10.out.c2; have hc20d := V0_10.out.c3; have V1_10 := Lib.hid (CVar.ext V1_9.out hx19); have hc21a := V1_10.out.c0; have hc21b := V1_10.out.c1; have hc21c := V1_10.out.c2; have hc21d := V1_10.out.c3; have V4_10 := Lib.hid (CVar.ext V4_9.out hx19); have hc22a := V4_10.out.c0; have hc22b := V4_10.out.c1; have hc22c := V4_10.out.c2; have hc22d := V4_10.out.c3; have V9_10 := Lib.hid (CVar.ext (CVar.new (T := 31) w14 (scN n0 m0 l0 r0 a1) (.slice A14 m14 c14) (scN n0 m0 l0 r0 a1) (.slice A14' m14' c14')) hx19); have hc23a := V9_10.out.c0; have hc23b := V9_10.out.c1; have hc23c := V9_10.out.c2; have hc23d := V9_10.out.c3))
  have X6 := Lib.hid (Ext.tr X5.out hx10)
  have X7 := Lib.hid (Ext.tr X6.out (one_box w10 (.cells #[.int .i64 n0, (.slice A10 m10 c10), .int .i64 m0, (.slice A10' m10' c10')] 31)))
  have X8 := Lib.hid (Ext.tr X7.out hx14)
  have X9 := Lib.hid (Ext.tr X8.out (one_box w14 (.cells #[.int .i64 (scN n0 m0 l0 r0 a1), (.slice A14 m14 c14), .int .i64 (scN n0 m0 l0 r0 a1), (.slice A14' m14' c14')] 31)))
  have X10 := Lib.hid (Ext.tr X9.out hx19)
  have K2_8 := Lib.hid (Own.ext K2_7.out hx14)
  have K2_9 := Lib.hid (Own.ext K2_8.out (one_box w14 (.cells #[.int .i64 (scN n0 m0 l0 r0 a1), (.slice A14 m14 c14), .int .i64 (scN n0 m0 l0 r0 a1), (.slice A14' m14' c14')] 31)))
  have K2_10 := Lib.hid (Own.ext K2_9.out hx19)
  have K3_8 := Lib.hid (Own.ext K3_7.out hx14)
  have K3_9 := Lib.hid (Own.ext K3_8.out (one_box w14 (.cells #[.int .i64 (scN n0 m0 l0 r0 a1), (.slice A14 m14 c14), .int .i64 (scN n0 m0 l0 r0 a1), (.slice A14' m14' c14')] 31)))
  have K3_10 := Lib.hid (Own.ext K3_9.out hx19)
  go_wp2
  first
    | (go_region_held3 (fun w' => w'.cell? ⟨w10.heap.size, 0, none⟩ = some (.int .i64 n0) ∧ w'.cell? ⟨w10.heap.size, 1, none⟩ = some ((.slice A10 m10 c10)) ∧ w'.cell? ⟨w10.heap.size, 2, none⟩ = some (.int .i64 m0) ∧ w'.cell? ⟨w10.heap.size, 3, none⟩ = some ((.slice A10' m10' c10')) ∧ w'.cell? ⟨w.heap.size, 0, none⟩ = some (.int .i64 n0) ∧ w'.cell? ⟨w.heap.size, 1, none⟩ = some ((.slice A'0 l0.length c'0)) ∧ w'.cell? ⟨w.heap.size, 2, none⟩ = some (.int .i64 m0) ∧ w'.cell? ⟨w.heap.size, 3, none⟩ = some ((.slice B'0 r0.length d'0)))
        (first | with_reducible exact ⟨(CVar.ext (CVar.extD V4_10.out hx24a) hx24b).c0, (CVar.ext (CVar.extD V4_10.out hx24a) hx24b).c1, (CVar.ext (CVar.extD V4_10.out hx24a) hx24b).c2, (CVar.ext (CVar.extD V4_10.out hx24a) hx24b).c3, (CVar.ext (CVar.extD V0_10.out hx24a) hx24b).c0, (CVar.ext (CVar.extD V0_10.out hx24a) hx24b).c1, (CVar.ext (CVar.extD V0_10.out hx24a) hx24b).c2, (CVar.ext (CVar.extD V0_10.out hx24a) hx24b).c3⟩ | with_reducible exact ⟨(CVar.extD V4_10.out hx24a).c0, (CVar.extD V4_10.out hx24a).c1, (CVar.extD V4_10.out hx24a).c2, (CVar.extD V4_10.out hx24a).c3, (CVar.extD V0_10.out hx24a).c0, (CVar.extD V0_10.out hx24a).c1, (CVar.extD V0_10.out hx24a).c2, (CVar.extD V0_10.out hx24a).c3⟩ | (go_keep; done) | (refine ⟨?_, ?_, ?_, ?_, ?_, ?_, ?_, ?_⟩ <;> (go_keep; done)))
        (first
          | (go_at_call 13; refine (toCanon_c n0 m0 l0 r0 _ _ _ (Ints.drew (Hv0.out.ext X10.out)) (Ints.drew (Hu0.out.ext X10.out)) (by omega) (by omega)).mono ?_; rintro e w24a ⟨v24, u24, rfl, ho24, hp24, ha24, hx24a⟩; obtain ⟨A24, m24, c24, rfl⟩ := ho24.form; obtain ⟨A24', m24', c24', rfl⟩ := hp24.form)
          | (go_at_call 16; refine (eqCanon_c n0 m0 n0 m0 l0 r0 l0 r0 _ _ _ _ _ (Own.ints (Own.ext K2_10.out (Ext.ofD hx24a))) (Own.ints (Own.ext K3_10.out (Ext.ofD hx24a))) (Own.ints ho24) (Own.ints hp24)).mono ?_; rintro e w24b ⟨b24, rfl, hb24, hx24b⟩; obtain rfl := hb24.2 ⟨rfl, rfl, rfl, rfl⟩; clear hb24)))
    | fail
  have V0_11 := Lib.hid (CVar.ext V0_10.out (Ext.ofD hx24a))
  have V0_12 := Lib.hid (CVar.ext V0_11.out hx24b)
  have hc25a := V0_12.out.c0
  have hc25b := V0_12.out.c1
  have hc25c := V0_12.out.c2
  have hc25d := V0_12.out.c3
  have V1_11 := Lib.hid (CVar.ext V1_10.out (Ext.ofD hx24a))
  have V1_12 := Lib.hid (CVar.ext V1_11.out hx24b)
  have hc26a := V1_12.out.c0
  have hc26b := V1_12.out.c1
  have hc26c := V1_12.out.c2
  have hc26d := V1_12.out.c3
  have V4_11 := Lib.hid (CVar.ext V4_10.out (Ext.ofD hx24a))
  have V4_12 := Lib.hid (CVar.ext V4_11.out hx24b)
  have hc27a := V4_12.out.c0
  have hc27b := V4_12.out.c1
  have hc27c := V4_12.out.c2
  have hc27d := V4_12.out.c3
  have V9_11 := Lib.hid (CVar.ext V9_10.out (Ext.ofD hx24a))
  have V9_12 := Lib.hid (CVar.ext V9_11.out hx24b)
  have hc28a := V9_12.out.c0
  have hc28b := V9_12.out.c1
  have hc28c := V9_12.out.c2
  have hc28d := V9_12.out.c3
  have K2_11 := Lib.hid (Own.ext K2_10.out (Ext.ofD hx24a))
  have K2_12 := Lib.hid (Own.ext K2_11.out hx24b)
  have K3_11 := Lib.hid (Own.ext K3_10.out (Ext.ofD hx24a))
  have K3_12 := Lib.hid (Own.ext K3_11.out hx24b)
  have tok : True := trivial
  go_wp2_with (first | (go_at_call 17; clear tok; refine (markCanon_c l0 r0 n0 m0 1 _ _ _ K2_12.out K3_12.out ha10 (by omega) (by omega) (by omega)).mono ?_; rintro e w29 ⟨q29, w29a, rfl, hq29, hl29, hm29a, hg29a, hm29, hg29⟩; have V0_13 := Lib.hid (CVar.kept V0_12.out hg29a (Own.ne_lt ho10 (Nat.lt_of_lt_of_le Hp0.out.lt (Nat.le_trans (Nat.le_trans (Nat.le_trans (Nat.le_trans (Nat.le_refl _) hx3.size) hx5.size) hx7.size) (one_box w7 (.cells #[.int .i64 (scN n0 m0 l0 r0 a1), (.slice A7 m7 c7), .int .i64 (scN n0 m0 l0 r0 a1), (.slice A7' m7' c7')] 31)).size)))); have V0_14 := Lib.hid (CVar.kept V0_13.out hg29 (Own.ne_lt hp10 (Nat.lt_of_lt_of_le Hp0.out.lt (Nat.le_trans (Nat.le_trans (Nat.le_trans (Nat.le_trans (Nat.le_refl _) hx3.size) hx5.size) hx7.size) (one_box w7 (.cells #[.int .i64 (scN n0 m0 l0 r0 a1), (.slice A7 m7 c7), .int .i64 (scN n0 m0 l0 r0 a1), (.slice A7' m7' c7')] 31)).size)))); have hc30a := V0_14.out.c0; have hc30b := V0_14.out.c1; have hc30c := V0_14.out.c2; have hc30d := V0_14.out.c3; have V1_13 := Lib.hid (CVar.kept V1_12.out hg29a (Own.ne_lt ho10 (Nat.lt_of_lt_of_le (CVar.new (T := 31) w7 (scN n0 m0 l0 r0 a1) (.slice A7 m7 c7) (scN n0 m0 l0 r0 a1) (.slice A7' m7' c7')).lt (Nat.le_refl _)))); have V1_14 := Lib.hid (CVar.kept V1_13.out hg29 (Own.ne_lt hp10 (Nat.lt_of_lt_of_le (CVar.new (T := 31) w7 (scN n0 m0 l0 r0 a1) (.slice A7 m7 c7) (scN n0 m0 l0 r0 a1) (.slice A7' m7' c7')).lt (Nat.le_refl _)))); have hc31a := V1_14.out.c0; have hc31b := V1_14.out.c1; have hc31c := V1_14.out.c2; have hc31d := V1_14.out.c3; have V4_13 := Lib.hid (CVar.kept V4_12.out hg29a (Own.ne_ge ho10 (Nat.le_refl _))); have V4_14 := Lib.hid (CVar.kept V4_13.out hg29 (Own.ne_ge hp10 (Nat.le_refl _))); have hc32a := V4_14.out.c0; have hc32b := V4_14.out.c1; have hc32c := V4_14.out.c2; have hc32d := V4_14.out.c3; have V9_13 := Lib.hid (CVar.kept V9_12.out hg29a (Own.ne_ge ho10 (Nat.le_trans (Nat.le_trans (Nat.le_refl _) (one_box w10 (.cells #[.int .i64 n0, (.slice A10 m10 c10), .int .i64 m0, (.slice A10' m10' c10')] 31)).size) hx14.size))); have V9_14 := Lib.hid (CVar.kept V9_13.out hg29 (Own.ne_ge hp10 (Nat.le_trans (Nat.le_trans (Nat.le_refl _) (one_box w10 (.cells #[.int .i64 n0, (.slice A10 m10 c10), .int .i64 m0, (.slice A10' m10' c10')] 31)).size) hx14.size))); have hc33a := V9_14.out.c0; have hc33b := V9_14.out.c1; have hc33c := V9_14.out.c2; have hc33d := V9_14.out.c3))
  have K5_10 := Lib.hid (Own.ext K5_9.out hx19)
  have K5_11 := Lib.hid (Own.ext K5_10.out (Ext.ofD hx24a))
  have K5_12 := Lib.hid (Own.ext K5_11.out hx24b)
  have K5_13 := Lib.hid (Own.kept K5_12.out hg29a (Own.apart' K2_7.out ho14))
  have K5_14 := Lib.hid (Own.kept K5_13.out hg29 (Own.apart' K3_7.out ho14))
  have K6_10 := Lib.hid (Own.ext K6_9.out hx19)
  have K6_11 := Lib.hid (Own.ext K6_10.out (Ext.ofD hx24a))
  have K6_12 := Lib.hid (Own.ext K6_11.out hx24b)
  have K6_13 := Lib.hid (Own.kept K6_12.out hg29a (Own.apart' K2_7.out hp14))
  have K6_14 := Lib.hid (Own.kept K6_13.out hg29 (Own.apart' K3_7.out hp14))
  have K7_10 := Lib.hid (Own.ext K7_9.out hx19)
  have K7_11 := Lib.hid (Own.ext K7_10.out (Ext.ofD hx24a))
  have K7_12 := Lib.hid (Own.ext K7_11.out hx24b)
  have K7_13 := Lib.hid (Own.kept K7_12.out hg29a (Own.apart K7_5.out ho10))
  have K7_14 := Lib.hid (Own.kept K7_13.out hg29 (Own.apart K7_5.out hp10))
  have K8_10 := Lib.hid (Own.ext K8_9.out hx19)
  have K8_11 := Lib.hid (Own.ext K8_10.out (Ext.ofD hx24a))
  have K8_12 := Lib.hid (Own.ext K8_11.out hx24b)
  have K8_13 := Lib.hid (Own.kept K8_12.out hg29a (Own.apart K8_5.out ho10))
  have K8_14 := Lib.hid (Own.kept K8_13.out hg29 (Own.apart K8_5.out hp10))
  have tok : True := trivial
  go_wp2_with (first | (go_at_call 16; clear tok; refine (eqCanon_c (scN n0 m0 l0 r0 a1) (scN n0 m0 l0 r0 a1) (scN n0 m0 l0 r0 a1) (scN n0 m0 l0 r0 a1) (scI n0 m0 l0 r0 a1) (scO n0 m0 l0 r0 a1) (scI n0 m0 l0 r0 a1) (scO n0 m0 l0 r0 a1) _ _ _ _ _ (Own.ints K5_14.out) (Own.ints K6_14.out) (Own.ints K7_14.out) (Own.ints K8_14.out)).mono ?_; rintro e w34 ⟨b34, rfl, hb34, hx34⟩; obtain rfl := hb34.2 ⟨rfl, rfl, rfl, rfl⟩; clear hb34; have V0_15 := Lib.hid (CVar.ext V0_14.out hx34); have hc35a := V0_15.out.c0; have hc35b := V0_15.out.c1; have hc35c := V0_15.out.c2; have hc35d := V0_15.out.c3; have V1_15 := Lib.hid (CVar.ext V1_14.out hx34); have hc36a := V1_15.out.c0; have hc36b := V1_15.out.c1; have hc36c := V1_15.out.c2; have hc36d := V1_15.out.c3; have V4_15 := Lib.hid (CVar.ext V4_14.out hx34); have hc37a := V4_15.out.c0; have hc37b := V4_15.out.c1; have hc37c := V4_15.out.c2; have hc37d := V4_15.out.c3; have V9_15 := Lib.hid (CVar.ext V9_14.out hx34); have hc38a := V9_15.out.c0; have hc38b := V9_15.out.c1; have hc38c := V9_15.out.c2; have hc38d := V9_15.out.c3))
  have K5_15 := Lib.hid (Own.ext K5_14.out hx34)
  have K6_15 := Lib.hid (Own.ext K6_14.out hx34)
  have tok : True := trivial
  go_wp2_with (first | (go_at_call 17; clear tok; refine (markCanon_c (scI n0 m0 l0 r0 a1) (scO n0 m0 l0 r0 a1) (scN n0 m0 l0 r0 a1) (scN n0 m0 l0 r0 a1) 1 _ _ _ K5_15.out K6_15.out ha14 (by omega) (by omega) (by omega)).mono ?_; rintro e w39 ⟨q39, w39a, rfl, hq39, hl39, hm39a, hg39a, hm39, hg39⟩; have V0_16 := Lib.hid (CVar.kept V0_15.out hg39a (Own.ne_lt ho14 (Nat.lt_of_lt_of_le Hp0.out.lt (Nat.le_trans (Nat.le_trans (Nat.le_trans (Nat.le_trans (Nat.le_trans (Nat.le_trans (Nat.le_refl _) hx3.size) hx5.size) hx7.size) (one_box w7 (.cells #[.int .i64 (scN n0 m0 l0 r0 a1), (.slice A7 m7 c7), .int .i64 (scN n0 m0 l0 r0 a1), (.slice A7' m7' c7')] 31)).size) hx10.size) (one_box w10 (.cells #[.int .i64 n0, (.slice A10 m10 c10), .int .i64 m0, (.slice A10' m10' c10')] 31)).size)))); have V0_17 := Lib.hid (CVar.kept V0_16.out hg39 (Own.ne_lt hp14 (Nat.lt_of_lt_of_le Hp0.out.lt (Nat.le_trans (Nat.le_trans (Nat.le_trans (Nat.le_trans (Nat.le_trans (Nat.le_trans (Nat.le_refl _) hx3.size) hx5.size) hx7.size) (one_box w7 (.cells #[.int .i64 (scN n0 m0 l0 r0 a1), (.slice A7 m7 c7), .int .i64 (scN n0 m0 l0 r0 a1), (.slice A7' m7' c7')] 31)).size) hx10.size) (one_box w10 (.cells #[.int .i64 n0, (.slice A10 m10 c10), .int .i64 m0, (.slice A10' m10' c10')] 31)).size)))); have hc40a := V0_17.out.c0; have hc40b := V0_17.out.c1; have hc40c := V0_17.out.c2; have hc40d := V0_17.out.c3; have V1_16 := Lib.hid (CVar.kept V1_15.out hg39a (Own.ne_lt ho14 (Nat.lt_of_lt_of_le (CVar.new (T := 31) w7 (scN n0 m0 l0 r0 a1) (.slice A7 m7 c7) (scN n0 m0 l0 r0 a1) (.slice A7' m7' c7')).lt (Nat.le_trans (Nat.le_trans (Nat.le_refl _) hx10.size) (one_box w10 (.cells #[.int .i64 n0, (.slice A10 m10 c10), .int .i64 m0, (.slice A10' m10' c10')] 31)).size)))); have V1_17 := Lib.hid (CVar.kept V1_16.out hg39 (Own.ne_lt hp14 (Nat.lt_of_lt_of_le (CVar.new (T := 31) w7 (scN n0 m0 l0 r0 a1) (.slice A7 m7 c7) (scN n0 m0 l0 r0 a1) (.slice A7' m7' c7')).lt (Nat.le_trans (Nat.le_trans (Nat.le_refl _) hx10.size) (one_box w10 (.cells #[.int .i64 n0, (.slice A10 m10 c10), .int .i64 m0, (.slice A10' m10' c10')] 31)).size)))); have hc41a := V1_17.out.c0; have hc41b := V1_17.out.c1; have hc41c := V1_17.out.c2; have hc41d := V1_17.out.c3; have V4_16 := Lib.hid (CVar.kept V4_15.out hg39a (Own.ne_lt ho14 (Nat.lt_of_lt_of_le (CVar.new (T := 31) w10 n0 (.slice A10 m10 c10) m0 (.slice A10' m10' c10')).lt (Nat.le_refl _)))); have V4_17 := Lib.hid (CVar.kept V4_16.out hg39 (Own.ne_lt hp14 (Nat.lt_of_lt_of_le (CVar.new (T := 31) w10 n0 (.slice A10 m10 c10) m0 (.slice A10' m10' c10')).lt (Nat.le_refl _)))); have hc42a := V4_17.out.c0; have hc42b := V4_17.out.c1; have hc42c := V4_17.out.c2; have hc42d := V4_17.out.c3; have V9_16 := Lib.hid (CVar.kept V9_15.out hg39a (Own.ne_ge ho14 (Nat.le_refl _))); have V9_17 := Lib.hid (CVar.kept V9_16.out hg39 (Own.ne_ge hp14 (Nat.le_refl _))); have hc43a := V9_17.out.c0; have hc43b := V9_17.out.c1; have hc43c := V9_17.out.c2; have hc43d := V9_17.out.c3))
  have K5_17 := Lib.hid (Own.kept hm39a hg39 ha14)
  have tok : True := trivial
  go_wp2_with (first | (go_at_call 27; clear tok; refine (heldCanon_c ((scI n0 m0 l0 r0 a1)).length ((scO n0 m0 l0 r0 a1)).length (scN n0 m0 l0 r0 a1) (scN n0 m0 l0 r0 a1) 1 _ _ _ (Own.ints K5_17.out) (Own.ints hm39) (by omega) (by omega) (by omega)).mono ?_; rintro e w44 ⟨q44, rfl, hq44, hx44⟩; obtain rfl : q39 = q44 := hq39.out.trans hq44.out.symm; have V0_18 := Lib.hid (CVar.ext V0_17.out hx44); have hc45a := V0_18.out.c0; have hc45b := V0_18.out.c1; have hc45c := V0_18.out.c2; have hc45d := V0_18.out.c3; have V1_18 := Lib.hid (CVar.ext V1_17.out hx44); have hc46a := V1_18.out.c0; have hc46b := V1_18.out.c1; have hc46c := V1_18.out.c2; have hc46d := V1_18.out.c3; have V4_18 := Lib.hid (CVar.ext V4_17.out hx44); have hc47a := V4_18.out.c0; have hc47b := V4_18.out.c1; have hc47c := V4_18.out.c2; have hc47d := V4_18.out.c3; have V9_18 := Lib.hid (CVar.ext V9_17.out hx44); have hc48a := V9_18.out.c0; have hc48b := V9_18.out.c1; have hc48c := V9_18.out.c2; have hc48d := V9_18.out.c3))
  have X11 := Lib.hid (Ext.tr X10.out (Ext.ofD hx24a))
  have X12 := Lib.hid (Ext.tr X11.out hx24b)
  have X13 := Lib.hid (Ext.mark X12.out K2_12.out hg29a X5.out.size)
  have K3_13 := Lib.hid (Own.kept K3_12.out hg29a (Apart.rowC ha10))
  have X14 := Lib.hid (Ext.mark X13.out K3_13.out hg29 X5.out.size)
  have X15 := Lib.hid (Ext.tr X14.out hx34)
  have X16 := Lib.hid (Ext.mark X15.out K5_15.out hg39a X7.out.size)
  have K6_16 := Lib.hid (Own.kept K6_15.out hg39a (Apart.rowC ha14))
  have X17 := Lib.hid (Ext.mark X16.out K6_16.out hg39 X7.out.size)
  have X18 := Lib.hid (Ext.tr X17.out hx44)
  have tok : True := trivial
  go_wp2_with (first | (go_at_call 13; clear tok; refine (toCanon_c n0 m0 l0 r0 _ _ _ (Hv0.out.ext X18.out) (Hu0.out.ext X18.out) (by omega) (by omega)).mono ?_; rintro e w49 ⟨v49, u49, rfl, ho49, hp49, ha49, hx49⟩; obtain ⟨A49, m49, c49, rfl⟩ := ho49.form; obtain ⟨A49', m49', c49', rfl⟩ := hp49.form; have V0_19 := Lib.hid (CVar.ext V0_18.out hx49); have hc50a := V0_19.out.c0; have hc50b := V0_19.out.c1; have hc50c := V0_19.out.c2; have hc50d := V0_19.out.c3; have V1_19 := Lib.hid (CVar.ext V1_18.out hx49); have hc51a := V1_19.out.c0; have hc51b := V1_19.out.c1; have hc51c := V1_19.out.c2; have hc51d := V1_19.out.c3; have V4_19 := Lib.hid (CVar.ext V4_18.out hx49); have hc52a := V4_19.out.c0; have hc52b := V4_19.out.c1; have hc52c := V4_19.out.c2; have hc52d := V4_19.out.c3; have V9_19 := Lib.hid (CVar.ext V9_18.out hx49); have hc53a := V9_19.out.c0; have hc53b := V9_19.out.c1; have hc53c := V9_19.out.c2; have hc53d := V9_19.out.c3))
  have tok : True := trivial
  go_wp2_with (first | (go_at_call 31; clear tok; refine (stretchCanon_c n0 m0 l0 r0 a1 _ _ _ (Own.ints ho49) (Own.ints hp49)).mono ?_; rintro e w54 ⟨v54, u54, rfl, ho54, hp54, ha54, hx54⟩; obtain ⟨A54, m54, c54, rfl⟩ := ho54.form; obtain ⟨A54', m54', c54', rfl⟩ := hp54.form; have V0_20 := Lib.hid (CVar.ext V0_19.out hx54); have V0_21 := Lib.hid (CVar.ext V0_20.out (one_box w54 (.cells #[.int .i64 (scN n0 m0 l0 r0 a1), (.slice A54 m54 c54), .int .i64 (scN n0 m0 l0 r0 a1), (.slice A54' m54' c54')] 31))); have hc55a := V0_21.out.c0; have hc55b := V0_21.out.c1; have hc55c := V0_21.out.c2; have hc55d := V0_21.out.c3; have V1_20 := Lib.hid (CVar.ext V1_19.out hx54); have V1_21 := Lib.hid (CVar.ext V1_20.out (one_box w54 (.cells #[.int .i64 (scN n0 m0 l0 r0 a1), (.slice A54 m54 c54), .int .i64 (scN n0 m0 l0 r0 a1), (.slice A54' m54' c54')] 31))); have hc56a := V1_21.out.c0; have hc56b := V1_21.out.c1; have hc56c := V1_21.out.c2; have hc56d := V1_21.out.c3; have V4_20 := Lib.hid (CVar.ext V4_19.out hx54); have V4_21 := Lib.hid (CVar.ext V4_20.out (one_box w54 (.cells #[.int .i64 (scN n0 m0 l0 r0 a1), (.slice A54 m54 c54), .int .i64 (scN n0 m0 l0 r0 a1), (.slice A54' m54' c54')] 31))); have hc57a := V4_21.out.c0; have hc57b := V4_21.out.c1; have hc57c := V4_21.out.c2; have hc57d := V4_21.out.c3; have V9_20 := Lib.hid (CVar.ext V9_19.out hx54); have V9_21 := Lib.hid (CVar.ext V9_20.out (one_box w54 (.cells #[.int .i64 (scN n0 m0 l0 r0 a1), (.slice A54 m54 c54), .int .i64 (scN n0 m0 l0 r0 a1), (.slice A54' m54' c54')] 31))); have hc58a := V9_21.out.c0; have hc58b := V9_21.out.c1; have hc58c := V9_21.out.c2; have hc58d := V9_21.out.c3; have hc59a := (CVar.new (T := 31) w54 (scN n0 m0 l0 r0 a1) (.slice A54 m54 c54) (scN n0 m0 l0 r0 a1) (.slice A54' m54' c54')).c0; have hc59b := (CVar.new (T := 31) w54 (scN n0 m0 l0 r0 a1) (.slice A54 m54 c54) (scN n0 m0 l0 r0 a1) (.slice A54' m54' c54')).c1; have hc59c := (CVar.new (T := 31) w54 (scN n0 m0 l0 r0 a1) (.slice A54 m54 c54) (scN n0 m0 l0 r0 a1) (.slice A54' m54' c54')).c2; have hc59d := (CVar.new (T := 31) w54 (scN n0 m0 l0 r0 a1) (.slice A54 m54 c54) (scN n0 m0 l0 r0 a1) (.slice A54' m54' c54')).c3))
  have K10_21 := Lib.hid (Own.ext ho54 (one_box w54 (.cells #[.int .i64 (scN n0 m0 l0 r0 a1), (.slice A54 m54 c54), .int .i64 (scN n0 m0 l0 r0 a1), (.slice A54' m54' c54')] 31)))
  have K11_21 := Lib.hid (Own.ext hp54 (one_box w54 (.cells #[.int .i64 (scN n0 m0 l0 r0 a1), (.slice A54 m54 c54), .int .i64 (scN n0 m0 l0 r0 a1), (.slice A54' m54' c54')] 31)))
  have K7_15 := Lib.hid (Own.ext K7_14.out hx34)
  have K7_16 := Lib.hid (Own.kept K7_15.out hg39a (Own.apart K7_7.out ho14))
  have K7_17 := Lib.hid (Own.kept K7_16.out hg39 (Own.apart K7_7.out hp14))
  have K7_18 := Lib.hid (Own.ext K7_17.out hx44)
  have K7_19 := Lib.hid (Own.ext K7_18.out hx49)
  have K7_20 := Lib.hid (Own.ext K7_19.out hx54)
  have K7_21 := Lib.hid (Own.ext K7_20.out (one_box w54 (.cells #[.int .i64 (scN n0 m0 l0 r0 a1), (.slice A54 m54 c54), .int .i64 (scN n0 m0 l0 r0 a1), (.slice A54' m54' c54')] 31)))
  have K8_15 := Lib.hid (Own.ext K8_14.out hx34)
  have K8_16 := Lib.hid (Own.kept K8_15.out hg39a (Own.apart K8_7.out ho14))
  have K8_17 := Lib.hid (Own.kept K8_16.out hg39 (Own.apart K8_7.out hp14))
  have K8_18 := Lib.hid (Own.ext K8_17.out hx44)
  have K8_19 := Lib.hid (Own.ext K8_18.out hx49)
  have K8_20 := Lib.hid (Own.ext K8_19.out hx54)
  have K8_21 := Lib.hid (Own.ext K8_20.out (one_box w54 (.cells #[.int .i64 (scN n0 m0 l0 r0 a1), (.slice A54 m54 c54), .int .i64 (scN n0 m0 l0 r0 a1), (.slice A54' m54' c54')] 31)))
  have tok : True := trivial
  go_wp2_with (first | (go_at_call 16; clear tok; refine (eqCanon_c (scN n0 m0 l0 r0 a1) (scN n0 m0 l0 r0 a1) (scN n0 m0 l0 r0 a1) (scN n0 m0 l0 r0 a1) (scI n0 m0 l0 r0 a1) (scO n0 m0 l0 r0 a1) (scI n0 m0 l0 r0 a1) (scO n0 m0 l0 r0 a1) _ _ _ _ _ (Own.ints K10_21.out) (Own.ints K11_21.out) (Own.ints K7_21.out) (Own.ints K8_21.out)).mono ?_; rintro e w60 ⟨b60, rfl, hb60, hx60⟩; obtain rfl := hb60.2 ⟨rfl, rfl, rfl, rfl⟩; clear hb60; have V0_22 := Lib.hid (CVar.ext V0_21.out hx60); have hc61a := V0_22.out.c0; have hc61b := V0_22.out.c1; have hc61c := V0_22.out.c2; have hc61d := V0_22.out.c3; have V1_22 := Lib.hid (CVar.ext V1_21.out hx60); have hc62a := V1_22.out.c0; have hc62b := V1_22.out.c1; have hc62c := V1_22.out.c2; have hc62d := V1_22.out.c3; have V4_22 := Lib.hid (CVar.ext V4_21.out hx60); have hc63a := V4_22.out.c0; have hc63b := V4_22.out.c1; have hc63c := V4_22.out.c2; have hc63d := V4_22.out.c3; have V9_22 := Lib.hid (CVar.ext V9_21.out hx60); have hc64a := V9_22.out.c0; have hc64b := V9_22.out.c1; have hc64c := V9_22.out.c2; have hc64d := V9_22.out.c3; have V12_22 := Lib.hid (CVar.ext (CVar.new (T := 31) w54 (scN n0 m0 l0 r0 a1) (.slice A54 m54 c54) (scN n0 m0 l0 r0 a1) (.slice A54' m54' c54')) hx60); have hc65a := V12_22.out.c0; have hc65b := V12_22.out.c1; have hc65c := V12_22.out.c2; have hc65d := V12_22.out.c3))
  have K5_18 := Lib.hid (Own.ext K5_17.out hx44)
  have K5_19 := Lib.hid (Own.ext K5_18.out hx49)
  have K5_20 := Lib.hid (Own.ext K5_19.out hx54)
  have K5_21 := Lib.hid (Own.ext K5_20.out (one_box w54 (.cells #[.int .i64 (scN n0 m0 l0 r0 a1), (.slice A54 m54 c54), .int .i64 (scN n0 m0 l0 r0 a1), (.slice A54' m54' c54')] 31)))
  have K5_22 := Lib.hid (Own.ext K5_21.out hx60)
  have K6_18 := Lib.hid (Own.ext hm39 hx44)
  have K6_19 := Lib.hid (Own.ext K6_18.out hx49)
  have K6_20 := Lib.hid (Own.ext K6_19.out hx54)
  have K6_21 := Lib.hid (Own.ext K6_20.out (one_box w54 (.cells #[.int .i64 (scN n0 m0 l0 r0 a1), (.slice A54 m54 c54), .int .i64 (scN n0 m0 l0 r0 a1), (.slice A54' m54' c54')] 31)))
  have K6_22 := Lib.hid (Own.ext K6_21.out hx60)
  have tok : True := trivial
  go_wp2_with (first | (go_at_call 27; clear tok; refine (heldCanon_c ((scI n0 m0 l0 r0 a1)).length ((scO n0 m0 l0 r0 a1)).length (scN n0 m0 l0 r0 a1) (scN n0 m0 l0 r0 a1) 1 _ _ _ (Own.ints K5_22.out) (Own.ints K6_22.out) (by omega) (by omega) (by omega)).mono ?_; rintro e w66 ⟨q66, rfl, hq66, hx66⟩; obtain rfl : q39 = q66 := hq39.out.trans hq66.out.symm; have V0_23 := Lib.hid (CVar.ext V0_22.out hx66); have hc67a := V0_23.out.c0; have hc67b := V0_23.out.c1; have hc67c := V0_23.out.c2; have hc67d := V0_23.out.c3; have V1_23 := Lib.hid (CVar.ext V1_22.out hx66); have hc68a := V1_23.out.c0; have hc68b := V1_23.out.c1; have hc68c := V1_23.out.c2; have hc68d := V1_23.out.c3; have V4_23 := Lib.hid (CVar.ext V4_22.out hx66); have hc69a := V4_23.out.c0; have hc69b := V4_23.out.c1; have hc69c := V4_23.out.c2; have hc69d := V4_23.out.c3; have V9_23 := Lib.hid (CVar.ext V9_22.out hx66); have hc70a := V9_23.out.c0; have hc70b := V9_23.out.c1; have hc70c := V9_23.out.c2; have hc70d := V9_23.out.c3; have V12_23 := Lib.hid (CVar.ext V12_22.out hx66); have hc71a := V12_23.out.c0; have hc71b := V12_23.out.c1; have hc71c := V12_23.out.c2; have hc71d := V12_23.out.c3))
  go_ret
  have X19 := Lib.hid (Ext.tr X18.out hx49)
  have X20 := Lib.hid (Ext.tr X19.out hx54)
  have X21 := Lib.hid (Ext.tr X20.out (one_box w54 (.cells #[.int .i64 (scN n0 m0 l0 r0 a1), (.slice A54 m54 c54), .int .i64 (scN n0 m0 l0 r0 a1), (.slice A54' m54' c54')] 31)))
  have X22 := Lib.hid (Ext.tr X21.out hx60)
  have X23 := Lib.hid (Ext.tr X22.out hx66)
  exact ⟨rfl, X23.out⟩

namespace fnExactStretchCanonGlue
set_option maxRecDepth 100000 in
theorem lifted (os : Os) (started : os.Started) (H : Type) (enc : TypeId × Value → H) :
    ReturnsInHanded {} Try.checked os 7 .any (Rows.fnExactStretchCanonSpec.pre6 enc Try.prog Try.f7 Rows.fnExactStretchCanonRow.domain false) (Rows.fnExactStretchCanonSpec.post enc Try.prog Try.f7 false true false false) := by
  refine returnsInHanded_of_change (C := Try.checked) own started (by kernel_rfl) Try.func7
    (ChangeSpec.witness6 (enc := enc) (C := Try.checked) false ⟨#[], #[.agg #[.int .i64 0, .slice none 0 0, .int .i64 0, .slice none 0 0], .int .i64 0], []⟩ 8 (by kernel_rfl) (by kernel_rfl) (by kernel_rfl) (by kernel_rfl)) ?_
  intro W base args ds gs before hval0 hW hcnd _
  have hval : ∀ (j : Nat) t v, Try.f7.params[j]? = some t → args[j]? = some v → Value.okWide Try.prog W .any base t v := hval0
  have hW' := hW
  obtain ⟨p, q, hA0, hV, rfl, hfz, hnd⟩ := hW
  have hA : DataW.TrodAll enc Try.prog W 0 (fun _ => true) true Try.f7.params.toList args.toList ds p := hA0
  rw [Try.params7] at hA hval
  obtain ⟨v0, vs0, d0, ds0, p0, q0, hargs, rfl, rfl, h0, r0⟩ := trodAll_cons hA
  obtain ⟨v1, vs1, d1, ds1, p1, q1, rfl, rfl, rfl, h1, r1⟩ := trodAll_cons r0
  obtain ⟨rfl, rfl, rfl⟩ := trodAll_nil r1
  obtain rfl : args = #[v0, v1] := by cases args; simp_all
  obtain ⟨rfl, rfl⟩ := trodVars_none hV
  have k0 := h0
  have lt0 : ∀ x ∈ p0, x.block < W.heap.size := by obtain ⟨m, hm⟩ := k0; exact DataW.trod_lt m _ _ _ hm
  obtain ⟨cn0, cu0, cl0, cm0, cz0, cr0, rfl, wa0, wb0, wc0, wd0⟩ := can_in (hval 0 26 v0 rfl rfl) h0
  obtain ⟨a1, rfl, rfl, rfl, w1⟩ := open_int Try.underlying3 (hval 1 3 v1 rfl rfl) h1
  clear hA0 hval0
  refine (lawStretchCanon_c cn0 cl0 cu0 cm0 cr0 cz0 a1 W wa0 wb0 wc0 wd0 (I64.of_wf w1)).mono fun e W' ⟨he, bel⟩ => ?_
  subst he
  exact ⟨_, rfl, _, _, _, [], _, [], hW', trodAll_mk1 (shut_bool Try.underlying4 _), (trodAll_cons_mk (Below.trod laidOut (by kernel_rfl) (of_decide_eq_true (by kernel_rfl)) k0 bel lt0) (trodAll_cons_mk (shut_int Try.underlying3 w1) trodAll_mk0)), rfl, bel.frame _, fun h => by cases h⟩
theorem over : Rows.fnExactStretchCanonRow.holds Try.pinned (OpenSpec.ofChange Rows.fnExactStretchCanonSpec) :=
  OpenClaim.holds_of_wide 7 Try.f7 rfl rfl rfl rfl rfl rfl rfl ⟨rfl, rfl, rfl, rfl, rfl⟩ rfl rfl rfl rfl rfl (by kernel_rfl) Try.func7 (by kernel_rfl)
    (of_decide_eq_true (by kernel_rfl)) (by unfold Func.isWrapper; first | (rw [if_pos (by decide +kernel)]; kernel_rfl) | (rw [if_neg (by decide +kernel)]; exact ⟨rfl, rfl⟩))
    (fun os started H enc _ => lifted os started H enc)
end fnExactStretchCanonGlue
/-- THE STATEMENT. -/
theorem fnExactStretchCanon_holds : Rows.FnExactStretchCanonSaid := fnExactStretchCanonGlue.over
#print axioms fnExactStretchCanon_holds
end Go.Proofs.Ytaiigheknmndnaa
