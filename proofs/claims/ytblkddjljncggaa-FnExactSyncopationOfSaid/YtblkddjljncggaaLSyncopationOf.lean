/- For every rhythm and every slice of ints the law FnExactSyncopationOf returns true: the program's SyncopationOf returns what the reference's returns, and leaves its arguments. Conditions: none beyond the row's own. -/
import Derived.Test.YtblkddjljncggaaFsyn
import Derived.Test.YtblkddjljncggaaLawR
import Derived.Test.YtblkddjljncggaaGlueR
namespace Go.Proofs.Ytblkddjljncggaa
open Go.ChangeShapes Go.WideShapes Go.ChangeAt Go.RowKit
attribute [local irreducible] synI
set_option maxHeartbeats 4000000 in
theorem lawSyncopationOf_c (n0 : Int) (l0 : List Int) (v'0 : Value) (l1 : List Int) (v'1 : Value) (w : World) (_ : I64 n0) (hv0 : Ints w v'0 l0) (hv1 : Ints w v'1 l1) : Calls Try.prog 9 #[.agg #[.int .i64 n0, v'0], v'1] w fun e w' => e = .returned (.bool true) ∧ Ext w w' := by
  obtain ⟨A'0, c'0, hve0, hlc0, hcm0, hcell0⟩ := id hv0
  subst hve0
  have Hv0 := Lib.hid hv0
  clear hv0 hcell0
  obtain ⟨A'1, c'1, hve1, hlc1, hcm1, hcell1⟩ := id hv1
  subst hve1
  have Hv1 := Lib.hid hv1
  clear hv1 hcell1
  have hp0 : RVar (w.alloc (.cells #[.int .i64 n0, (.slice A'0 l0.length c'0)] 42)) (w.heap.size) n0 (.slice A'0 l0.length c'0) := by simpa only [World.size_alloc, Nat.add_assoc] using RVar.new (T := 42) w n0 (.slice A'0 l0.length c'0)
  have Hp0 := Lib.hid hp0
  clear hp0
  have hc1a := Hp0.out.c0
  have hc1b := Hp0.out.c1
  by_cases hle1 : l1.length ≤ 1048576
  rotate_left
  · go_enter Try.func9, Try.ntmps9
    go_wp2
    go_ret
    exact ⟨rfl, (Ext.tr (Below.refl _ _) (one_box w (.cells #[.int .i64 n0, (.slice A'0 l0.length c'0)] 42)))⟩
  by_cases hle0 : l0.length ≤ 1048576
  rotate_left
  · go_enter Try.func9, Try.ntmps9
    have tok : True := trivial
    go_wp2_with (first | (go_at_call 30; clear tok; refine (szRhythm_f l0 n0 _ _ _ (Hv0.out.ext (Ext.tr (Below.refl _ _) (one_box w (.cells #[.int .i64 n0, (.slice A'0 l0.length c'0)] 42)))) ?_ ?_).mono ?_; (focus omega); (focus omega); rintro e w2 ⟨rfl, hx2⟩))
    go_ret
    exact ⟨rfl, (Ext.tr (Ext.tr (Below.refl _ _) (one_box w (.cells #[.int .i64 n0, (.slice A'0 l0.length c'0)] 42))) hx2)⟩
  go_enter Try.func9, Try.ntmps9
  have tok : True := trivial
  go_wp2_with (first | (go_at_call 30; clear tok; refine (szRhythm_t l0 n0 _ _ _ (Hv0.out.ext (Ext.tr (Below.refl _ _) (one_box w (.cells #[.int .i64 n0, (.slice A'0 l0.length c'0)] 42)))) ?_ ?_).mono ?_; (focus omega); (focus omega); rintro e w3 ⟨q3, rfl, hq3, hq3a, hq3b, hx3⟩; have hc4a := (RVar.ext Hp0.out hx3).c0; have hc4b := (RVar.ext Hp0.out hx3).c1))
  have tok : True := trivial
  go_wp2_with (first | (go_at_call 32; clear tok; refine (toRhythm_c n0 l0 _ _ (Hv0.out.ext (Ext.tr (Ext.tr (Below.refl _ _) (one_box w (.cells #[.int .i64 n0, (.slice A'0 l0.length c'0)] 42))) hx3)) (by omega)).mono ?_; rintro e w5 ⟨v5, rfl, ho5, hx5⟩; obtain ⟨A5, m5, c5, rfl⟩ := ho5.form; have hc6a := (RVar.ext (RVar.ext Hp0.out hx3) hx5).c0; have hc6b := (RVar.ext (RVar.ext Hp0.out hx3) hx5).c1))
  have tok : True := trivial
  go_wp2_with (first | (go_at_call 23; clear tok; have hz : (l1 : List Int).length ≤ 1099511627776 := (by omega); refine (toIntS_c l1 _ _ (Hv1.out.ext (Ext.tr (Ext.tr (Ext.tr (Below.refl _ _) (one_box w (.cells #[.int .i64 n0, (.slice A'0 l0.length c'0)] 42))) hx3) hx5)) hz).mono ?_; clear hz; rintro e w7 ⟨v7, rfl, ho7, hx7⟩; obtain ⟨A7, m7, c7, rfl⟩ := ho7.form; have hc8a := (RVar.ext (RVar.ext (RVar.ext Hp0.out hx3) hx5) hx7).c0; have hc8b := (RVar.ext (RVar.ext (RVar.ext Hp0.out hx3) hx5) hx7).c1))
  have tok : True := trivial
  go_wp2_with (first | (go_at_call 34; clear tok; refine (specSyncopationOf_c n0 l0 l1 _ _ _ (Own.ints (Own.ext ho5 hx7)) (Own.ints ho7)).mono ?_; rintro e w9 ⟨rfl, hx9⟩; have hc10a := (RVar.ext (RVar.ext (RVar.ext (RVar.ext Hp0.out hx3) hx5) hx7) hx9).c0; have hc10b := (RVar.ext (RVar.ext (RVar.ext (RVar.ext Hp0.out hx3) hx5) hx7) hx9).c1))
  have tok : True := trivial
  go_wp2_with (first | (go_at_call 32; clear tok; refine (toRhythm_c n0 l0 _ _ (Hv0.out.ext (Ext.tr (Ext.tr (Ext.tr (Ext.tr (Ext.tr (Below.refl _ _) (one_box w (.cells #[.int .i64 n0, (.slice A'0 l0.length c'0)] 42))) hx3) hx5) hx7) hx9)) (by omega)).mono ?_; rintro e w11 ⟨v11, rfl, ho11, hx11⟩; obtain ⟨A11, m11, c11, rfl⟩ := ho11.form; have hc12a := (RVar.ext (RVar.ext (RVar.ext (RVar.ext (RVar.ext (RVar.ext Hp0.out hx3) hx5) hx7) hx9) hx11) (one_box w11 (.cells #[.int .i64 n0, (.slice A11 m11 c11)] 24))).c0; have hc12b := (RVar.ext (RVar.ext (RVar.ext (RVar.ext (RVar.ext (RVar.ext Hp0.out hx3) hx5) hx7) hx9) hx11) (one_box w11 (.cells #[.int .i64 n0, (.slice A11 m11 c11)] 24))).c1; have hc13a := (RVar.new (T := 24) w11 n0 (.slice A11 m11 c11)).c0; have hc13b := (RVar.new (T := 24) w11 n0 (.slice A11 m11 c11)).c1))
  have tok : True := trivial
  go_wp2_with (first | (go_at_call 23; clear tok; have hz : (l1 : List Int).length ≤ 1099511627776 := (by omega); refine (toIntS_c l1 _ _ (Hv1.out.ext (Ext.tr (Ext.tr (Ext.tr (Ext.tr (Ext.tr (Ext.tr (Ext.tr (Below.refl _ _) (one_box w (.cells #[.int .i64 n0, (.slice A'0 l0.length c'0)] 42))) hx3) hx5) hx7) hx9) hx11) (one_box w11 (.cells #[.int .i64 n0, (.slice A11 m11 c11)] 24)))) hz).mono ?_; clear hz; rintro e w14 ⟨v14, rfl, ho14, hx14⟩; obtain ⟨A14, m14, c14, rfl⟩ := ho14.form; have hc15a := (RVar.ext (RVar.ext (RVar.ext (RVar.ext (RVar.ext (RVar.ext (RVar.ext Hp0.out hx3) hx5) hx7) hx9) hx11) (one_box w11 (.cells #[.int .i64 n0, (.slice A11 m11 c11)] 24))) hx14).c0; have hc15b := (RVar.ext (RVar.ext (RVar.ext (RVar.ext (RVar.ext (RVar.ext (RVar.ext Hp0.out hx3) hx5) hx7) hx9) hx11) (one_box w11 (.cells #[.int .i64 n0, (.slice A11 m11 c11)] 24))) hx14).c1; have hc16a := (RVar.ext (RVar.new (T := 24) w11 n0 (.slice A11 m11 c11)) hx14).c0; have hc16b := (RVar.ext (RVar.new (T := 24) w11 n0 (.slice A11 m11 c11)) hx14).c1))
  have tok : True := trivial
  go_wp2_with (first | (go_at_call 35; clear tok; refine (syncopationOf_c n0 l0 l1 _ _ _ (Own.ints (Own.ext (Own.ext ho11 (one_box w11 (.cells #[.int .i64 n0, (.slice A11 m11 c11)] 24))) hx14)) (Own.ints ho14)).mono ?_; rintro e w17 ⟨rfl, hx17⟩; have hc18a := (RVar.ext (RVar.ext (RVar.ext (RVar.ext (RVar.ext (RVar.ext (RVar.ext (RVar.ext Hp0.out hx3) hx5) hx7) hx9) hx11) (one_box w11 (.cells #[.int .i64 n0, (.slice A11 m11 c11)] 24))) hx14) hx17).c0; have hc18b := (RVar.ext (RVar.ext (RVar.ext (RVar.ext (RVar.ext (RVar.ext (RVar.ext (RVar.ext Hp0.out hx3) hx5) hx7) hx9) hx11) (one_box w11 (.cells #[.int .i64 n0, (.slice A11 m11 c11)] 24))) hx14) hx17).c1; have hc19a := (RVar.ext (RVar.ext (RVar.new (T := 24) w11 n0 (.slice A11 m11 c11)) hx14) hx17).c0; have hc19b := (RVar.ext (RVar.ext (RVar.new (T := 24) w11 n0 (.slice A11 m11 c11)) hx14) hx17).c1))
  go_wp2
  first
    | (go_region_held3 (fun w' => w'.cell? ⟨w11.heap.size, 0, none⟩ = some (.int .i64 n0) ∧ w'.cell? ⟨w11.heap.size, 1, none⟩ = some (.slice A11 m11 c11) ∧ w'.cell? ⟨w.heap.size, 0, none⟩ = some (.int .i64 n0) ∧ w'.cell? ⟨w.heap.size, 1, none⟩ = some (.slice A'0 l0.length c'0))
        (first | go_keep | exact ⟨(RVar.ext (RVar.extD (RVar.ext (RVar.ext (RVar.new (T := 24) w11 n0 (.slice A11 m11 c11)) hx14) hx17) hx20a) hx20b).c0, (RVar.ext (RVar.extD (RVar.ext (RVar.ext (RVar.new (T := 24) w11 n0 (.slice A11 m11 c11)) hx14) hx17) hx20a) hx20b).c1, (RVar.ext (RVar.extD (RVar.ext (RVar.ext (RVar.ext (RVar.ext (RVar.ext (RVar.ext (RVar.ext (RVar.ext Hp0.out hx3) hx5) hx7) hx9) hx11) (one_box w11 (.cells #[.int .i64 n0, (.slice A11 m11 c11)] 24))) hx14) hx17) hx20a) hx20b).c0, (RVar.ext (RVar.extD (RVar.ext (RVar.ext (RVar.ext (RVar.ext (RVar.ext (RVar.ext (RVar.ext (RVar.ext Hp0.out hx3) hx5) hx7) hx9) hx11) (one_box w11 (.cells #[.int .i64 n0, (.slice A11 m11 c11)] 24))) hx14) hx17) hx20a) hx20b).c1⟩ | exact ⟨(RVar.extD (RVar.ext (RVar.ext (RVar.new (T := 24) w11 n0 (.slice A11 m11 c11)) hx14) hx17) hx20a).c0, (RVar.extD (RVar.ext (RVar.ext (RVar.new (T := 24) w11 n0 (.slice A11 m11 c11)) hx14) hx17) hx20a).c1, (RVar.extD (RVar.ext (RVar.ext (RVar.ext (RVar.ext (RVar.ext (RVar.ext (RVar.ext (RVar.ext Hp0.out hx3) hx5) hx7) hx9) hx11) (one_box w11 (.cells #[.int .i64 n0, (.slice A11 m11 c11)] 24))) hx14) hx17) hx20a).c0, (RVar.extD (RVar.ext (RVar.ext (RVar.ext (RVar.ext (RVar.ext (RVar.ext (RVar.ext (RVar.ext Hp0.out hx3) hx5) hx7) hx9) hx11) (one_box w11 (.cells #[.int .i64 n0, (.slice A11 m11 c11)] 24))) hx14) hx17) hx20a).c1⟩)
        (first
          | (go_at_call 32; refine (toRhythm_c n0 l0 _ _ (Ints.drew (Hv0.out.ext (Ext.tr (Ext.tr (Ext.tr (Ext.tr (Ext.tr (Ext.tr (Ext.tr (Ext.tr (Ext.tr (Below.refl _ _) (one_box w (.cells #[.int .i64 n0, (.slice A'0 l0.length c'0)] 42))) hx3) hx5) hx7) hx9) hx11) (one_box w11 (.cells #[.int .i64 n0, (.slice A11 m11 c11)] 24))) hx14) hx17))) (by omega)).mono ?_; rintro e w20a ⟨v20, rfl, ho20, hx20a⟩; obtain ⟨A20, m20, c20, rfl⟩ := ho20.form)
          | (go_at_call 12; refine (eqRhythm_c n0 n0 l0 l0 _ _ _ (Own.ints (Own.ext (Own.ext (Own.ext (Own.ext ho11 (one_box w11 (.cells #[.int .i64 n0, (.slice A11 m11 c11)] 24))) hx14) hx17) (Ext.ofD hx20a))) (Own.ints ho20)).mono ?_; rintro e w20b ⟨b20, rfl, hb20, hx20b⟩; obtain rfl := hb20.2 ⟨rfl, rfl⟩; clear hb20)))
    | fail
  have hc21a := (RVar.ext (RVar.ext (RVar.ext (RVar.ext (RVar.ext (RVar.ext (RVar.ext (RVar.ext (RVar.ext (RVar.ext Hp0.out hx3) hx5) hx7) hx9) hx11) (one_box w11 (.cells #[.int .i64 n0, (.slice A11 m11 c11)] 24))) hx14) hx17) (Ext.ofD hx20a)) hx20b).c0
  have hc21b := (RVar.ext (RVar.ext (RVar.ext (RVar.ext (RVar.ext (RVar.ext (RVar.ext (RVar.ext (RVar.ext (RVar.ext Hp0.out hx3) hx5) hx7) hx9) hx11) (one_box w11 (.cells #[.int .i64 n0, (.slice A11 m11 c11)] 24))) hx14) hx17) (Ext.ofD hx20a)) hx20b).c1
  have hc22a := (RVar.ext (RVar.ext (RVar.ext (RVar.ext (RVar.new (T := 24) w11 n0 (.slice A11 m11 c11)) hx14) hx17) (Ext.ofD hx20a)) hx20b).c0
  have hc22b := (RVar.ext (RVar.ext (RVar.ext (RVar.ext (RVar.new (T := 24) w11 n0 (.slice A11 m11 c11)) hx14) hx17) (Ext.ofD hx20a)) hx20b).c1
  have tok : True := trivial
  go_wp2_with (first | (go_at_call 23; clear tok; have hz : (l1 : List Int).length ≤ 1099511627776 := (by omega); refine (toIntS_c l1 _ _ (Hv1.out.ext (Ext.tr (Ext.tr (Ext.tr (Ext.tr (Ext.tr (Ext.tr (Ext.tr (Ext.tr (Ext.tr (Ext.tr (Ext.tr (Below.refl _ _) (one_box w (.cells #[.int .i64 n0, (.slice A'0 l0.length c'0)] 42))) hx3) hx5) hx7) hx9) hx11) (one_box w11 (.cells #[.int .i64 n0, (.slice A11 m11 c11)] 24))) hx14) hx17) (Ext.ofD hx20a)) hx20b)) hz).mono ?_; clear hz; rintro e w23 ⟨v23, rfl, ho23, hx23⟩; obtain ⟨A23, m23, c23, rfl⟩ := ho23.form; have hc24a := (RVar.ext (RVar.ext (RVar.ext (RVar.ext (RVar.ext (RVar.ext (RVar.ext (RVar.ext (RVar.ext (RVar.ext (RVar.ext Hp0.out hx3) hx5) hx7) hx9) hx11) (one_box w11 (.cells #[.int .i64 n0, (.slice A11 m11 c11)] 24))) hx14) hx17) (Ext.ofD hx20a)) hx20b) hx23).c0; have hc24b := (RVar.ext (RVar.ext (RVar.ext (RVar.ext (RVar.ext (RVar.ext (RVar.ext (RVar.ext (RVar.ext (RVar.ext (RVar.ext Hp0.out hx3) hx5) hx7) hx9) hx11) (one_box w11 (.cells #[.int .i64 n0, (.slice A11 m11 c11)] 24))) hx14) hx17) (Ext.ofD hx20a)) hx20b) hx23).c1; have hc25a := (RVar.ext (RVar.ext (RVar.ext (RVar.ext (RVar.ext (RVar.new (T := 24) w11 n0 (.slice A11 m11 c11)) hx14) hx17) (Ext.ofD hx20a)) hx20b) hx23).c0; have hc25b := (RVar.ext (RVar.ext (RVar.ext (RVar.ext (RVar.ext (RVar.new (T := 24) w11 n0 (.slice A11 m11 c11)) hx14) hx17) (Ext.ofD hx20a)) hx20b) hx23).c1))
  have tok : True := trivial
  go_wp2_with (first | (go_at_call 25; clear tok; refine (eqIntS_c l1 l1 _ _ _ (Own.ints (Own.ext (Own.ext (Own.ext (Own.ext ho14 hx17) (Ext.ofD hx20a)) hx20b) hx23)) (Own.ints ho23)).mono ?_; rintro e w26 ⟨b26, rfl, hb26, hx26⟩; obtain rfl := hb26.2 rfl; clear hb26; have hc27a := (RVar.ext (RVar.ext (RVar.ext (RVar.ext (RVar.ext (RVar.ext (RVar.ext (RVar.ext (RVar.ext (RVar.ext (RVar.ext (RVar.ext Hp0.out hx3) hx5) hx7) hx9) hx11) (one_box w11 (.cells #[.int .i64 n0, (.slice A11 m11 c11)] 24))) hx14) hx17) (Ext.ofD hx20a)) hx20b) hx23) hx26).c0; have hc27b := (RVar.ext (RVar.ext (RVar.ext (RVar.ext (RVar.ext (RVar.ext (RVar.ext (RVar.ext (RVar.ext (RVar.ext (RVar.ext (RVar.ext Hp0.out hx3) hx5) hx7) hx9) hx11) (one_box w11 (.cells #[.int .i64 n0, (.slice A11 m11 c11)] 24))) hx14) hx17) (Ext.ofD hx20a)) hx20b) hx23) hx26).c1; have hc28a := (RVar.ext (RVar.ext (RVar.ext (RVar.ext (RVar.ext (RVar.ext (RVar.new (T := 24) w11 n0 (.slice A11 m11 c11)) hx14) hx17) (Ext.ofD hx20a)) hx20b) hx23) hx26).c0; have hc28b := (RVar.ext (RVar.ext (RVar.ext (RVar.ext (RVar.ext (RVar.ext (RVar.new (T := 24) w11 n0 (.slice A11 m11 c11)) hx14) hx17) (Ext.ofD hx20a)) hx20b) hx23) hx26).c1))
  go_ret
  exact ⟨rfl, (Ext.tr (Ext.tr (Ext.tr (Ext.tr (Ext.tr (Ext.tr (Ext.tr (Ext.tr (Ext.tr (Ext.tr (Ext.tr (Ext.tr (Ext.tr (Below.refl _ _) (one_box w (.cells #[.int .i64 n0, (.slice A'0 l0.length c'0)] 42))) hx3) hx5) hx7) hx9) hx11) (one_box w11 (.cells #[.int .i64 n0, (.slice A11 m11 c11)] 24))) hx14) hx17) (Ext.ofD hx20a)) hx20b) hx23) hx26)⟩

namespace fnExactSyncopationOfGlue
set_option maxRecDepth 100000 in
theorem lifted (os : Os) (started : os.Started) (H : Type) (enc : TypeId × Value → H) :
    ReturnsInHanded {} Try.checked os 9 .any (Rows.fnExactSyncopationOfSpec.pre6 enc Try.prog Try.f9 Rows.fnExactSyncopationOfRow.domain false) (Rows.fnExactSyncopationOfSpec.post enc Try.prog Try.f9 false true false false) := by
  refine returnsInHanded_of_change (C := Try.checked) own started (by kernel_rfl) Try.func9
    (ChangeSpec.witness6 (enc := enc) (C := Try.checked) false ⟨#[], #[.agg #[.int .i64 0, .slice none 0 0], .slice none 0 0], []⟩ 8 (by kernel_rfl) (by kernel_rfl) (by kernel_rfl) (by kernel_rfl)) ?_
  intro W base args ds gs before hval0 hW hcnd _
  have hval : ∀ (j : Nat) t v, Try.f9.params[j]? = some t → args[j]? = some v → Value.okWide Try.prog W .any base t v := hval0
  have hW' := hW
  obtain ⟨p, q, hA0, hV, rfl, hfz, hnd⟩ := hW
  have hA : DataW.TrodAll enc Try.prog W 0 (fun _ => true) true Try.f9.params.toList args.toList ds p := hA0
  rw [Try.params9] at hA hval
  obtain ⟨v0, vs0, d0, ds0, p0, q0, hargs, rfl, rfl, h0, r0⟩ := trodAll_cons hA
  obtain ⟨v1, vs1, d1, ds1, p1, q1, rfl, rfl, rfl, h1, r1⟩ := trodAll_cons r0
  obtain ⟨rfl, rfl, rfl⟩ := trodAll_nil r1
  obtain rfl : args = #[v0, v1] := by cases args; simp_all
  obtain ⟨rfl, rfl⟩ := trodVars_none hV
  have k0 := h0
  have lt0 : ∀ x ∈ p0, x.block < W.heap.size := by obtain ⟨m, hm⟩ := k0; exact DataW.trod_lt m _ _ _ hm
  obtain ⟨n0, u0, l0, rfl, wa0, wb0⟩ := rhy_in (hval 0 42 v0 rfl rfl) h0
  have k1 := h1
  have lt1 : ∀ x ∈ p1, x.block < W.heap.size := by obtain ⟨m, hm⟩ := k1; exact DataW.trod_lt m _ _ _ hm
  obtain ⟨l1, w1⟩ := ints_in (hval 1 22 v1 rfl rfl) h1
  clear hA0 hval0
  refine (lawSyncopationOf_c n0 l0 u0 l1 v1 W wa0 wb0 w1).mono fun e W' ⟨he, bel⟩ => ?_
  subst he
  exact ⟨_, rfl, _, _, _, [], _, [], hW', trodAll_mk1 (shut_bool Try.underlying4 _), (trodAll_cons_mk (Below.trod laidOut (by kernel_rfl) (of_decide_eq_true (by kernel_rfl)) k0 bel lt0) (trodAll_cons_mk (Below.trod laidOut (by kernel_rfl) (of_decide_eq_true (by kernel_rfl)) k1 bel lt1) trodAll_mk0)), rfl, bel.frame _, fun h => by cases h⟩
theorem over : Rows.fnExactSyncopationOfRow.holds Try.pinned (OpenSpec.ofChange Rows.fnExactSyncopationOfSpec) :=
  OpenClaim.holds_of_wide 9 Try.f9 rfl rfl rfl rfl rfl rfl rfl ⟨rfl, rfl, rfl, rfl, rfl⟩ rfl rfl rfl rfl rfl (by kernel_rfl) Try.func9 (by kernel_rfl)
    (of_decide_eq_true (by kernel_rfl)) (by unfold Func.isWrapper; first | (rw [if_pos (by decide +kernel)]; kernel_rfl) | (rw [if_neg (by decide +kernel)]; exact ⟨rfl, rfl⟩))
    (fun os started H enc _ => lifted os started H enc)
end fnExactSyncopationOfGlue
/-- THE STATEMENT. -/
theorem fnExactSyncopationOf_holds : Rows.FnExactSyncopationOfSaid := fnExactSyncopationOfGlue.over
#print axioms fnExactSyncopationOf_holds
end Go.Proofs.Ytblkddjljncggaa
