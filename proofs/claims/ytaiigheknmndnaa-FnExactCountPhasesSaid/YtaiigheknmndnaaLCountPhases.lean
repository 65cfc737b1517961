/- For every rhythm the law FnExactCountPhases returns true: the program's CountPhases returns what the reference's returns, and leaves its argument. Conditions: none beyond the row's own. -/
import Derived.Test.YtaiigheknmndnaaFcp
import Derived.Test.YtaiigheknmndnaaLawR
import Derived.Test.YtaiigheknmndnaaGlueR
namespace Go.Proofs.Ytaiigheknmndnaa
open Go.ChangeShapes Go.WideShapes Go.ChangeAt Go.RowKit
attribute [local irreducible] cntI
set_option maxHeartbeats 4000000 in
theorem lawCountPhases_c (n0 : Int) (l0 : List Int) (v'0 : Value) (w : World) (_ : I64 n0) (hv0 : Ints w v'0 l0) : Calls Try.prog 10 #[.agg #[.int .i64 n0, v'0]] w fun e w' => e = .returned (.bool true) ∧ Ext w w' := by
  obtain ⟨A'0, c'0, hve0, hlc0, hcm0, hcell0⟩ := id hv0
  subst hve0
  have Hv0 := Lib.hid hv0
  clear hv0 hcell0
  have hp0 : RVar (w.alloc (.cells #[.int .i64 n0, (.slice A'0 l0.length c'0)] 24)) (w.heap.size) n0 (.slice A'0 l0.length c'0) := by simpa only [World.size_alloc, Nat.add_assoc] using RVar.new (T := 24) w n0 (.slice A'0 l0.length c'0)
  have Hp0 := Lib.hid hp0
  clear hp0
  have X1 := Lib.hid (Ext.tr (Below.refl w.heap.size w) (one_box w (.cells #[.int .i64 n0, (.slice A'0 l0.length c'0)] 24)))
  have hc1a := Hp0.out.c0
  have hc1b := Hp0.out.c1
  by_cases hle0 : l0.length ≤ 1048576
  rotate_left
  · go_enter Try.func10, Try.ntmps10
    have tok : True := trivial
    go_wp2_with (first | (go_at_call 40; clear tok; refine (szRhythm_f l0 n0 _ _ _ (Hv0.out.ext X1.out) ?_ ?_).mono ?_; (focus omega); (focus omega); rintro e w2 ⟨rfl, hx2⟩))
    go_ret
    have X2 := Lib.hid (Ext.tr X1.out hx2)
    exact ⟨rfl, X2.out⟩
  go_enter Try.func10, Try.ntmps10
  have tok : True := trivial
  go_wp2_with (first | (go_at_call 40; clear tok; refine (szRhythm_t l0 n0 _ _ _ (Hv0.out.ext X1.out) ?_ ?_).mono ?_; (focus omega); (focus omega); rintro e w3 ⟨q3, rfl, hq3, hq3a, hq3b, hx3⟩; have V0_2 := Lib.hid (RVar.ext Hp0.out hx3); have hc4a := V0_2.out.c0; have hc4b := V0_2.out.c1))
  have X2 := Lib.hid (Ext.tr X1.out hx3)
  have tok : True := trivial
  go_wp2_with (first | (go_at_call 42; clear tok; refine (toRhythm_c n0 l0 _ _ (Hv0.out.ext X2.out) (by omega)).mono ?_; rintro e w5 ⟨v5, rfl, ho5, hx5⟩; obtain ⟨A5, m5, c5, rfl⟩ := ho5.form; have V0_3 := Lib.hid (RVar.ext V0_2.out hx5); have hc6a := V0_3.out.c0; have hc6b := V0_3.out.c1))
  have tok : True := trivial
  go_wp2_with (first | (go_at_call 41; clear tok; refine (specCountPhases_c n0 l0 _ _ (Own.ints ho5)).mono ?_; rintro e w7 ⟨rfl, hx7⟩; have V0_4 := Lib.hid (RVar.ext V0_3.out hx7); have hc8a := V0_4.out.c0; have hc8b := V0_4.out.c1))
  have X3 := Lib.hid (Ext.tr X2.out hx5)
  have X4 := Lib.hid (Ext.tr X3.out hx7)
  have tok : True := trivial
  go_wp2_with (first | (go_at_call 42; clear tok; refine (toRhythm_c n0 l0 _ _ (Hv0.out.ext X4.out) (by omega)).mono ?_; rintro e w9 ⟨v9, rfl, ho9, hx9⟩; obtain ⟨A9, m9, c9, rfl⟩ := ho9.form; have V0_5 := Lib.hid (RVar.ext V0_4.out hx9); have V0_6 := Lib.hid (RVar.ext V0_5.out (one_box w9 (.cells #[.int .i64 n0, (.slice A9 m9 c9)] 29))); have hc10a := V0_6.out.c0; have hc10b := V0_6.out.c1; have hc11a := (RVar.new (T := 29) w9 n0 (.slice A9 m9 c9)).c0; have hc11b := (RVar.new (T := 29) w9 n0 (.slice A9 m9 c9)).c1))
  have K1_6 := Lib.hid (Own.ext ho9 (one_box w9 (.cells #[.int .i64 n0, (.slice A9 m9 c9)] 29)))
  have tok : True := trivial
  go_wp2_with (first | (go_at_call 43; clear tok; refine (countPhases_c n0 l0 _ _ (Own.ints K1_6.out)).mono ?_; rintro e w12 ⟨rfl, hx12⟩; have V0_7 := Lib.hid (RVar.ext V0_6.out hx12); have hc13a := V0_7.out.c0; have hc13b := V0_7.out.c1; have V2_7 := Lib.hid (RVar.ext (RVar.new (T := 29) w9 n0 (.slice A9 m9 c9)) hx12); have hc14a := V2_7.out.c0; have hc14b := V2_7.out.c1))
  have X5 := Lib.hid (Ext.tr X4.out hx9)
  have X6 := Lib.hid (Ext.tr X5.out (one_box w9 (.cells #[.int .i64 n0, (.slice A9 m9 c9)] 29)))
  have X7 := Lib.hid (Ext.tr X6.out hx12)
  have K1_7 := Lib.hid (Own.ext K1_6.out hx12)
  go_wp2
  first
    | (go_region_held3 (fun w' => w'.cell? ⟨w9.heap.size, 0, none⟩ = some (.int .i64 n0) ∧ w'.cell? ⟨w9.heap.size, 1, none⟩ = some (.slice A9 m9 c9) ∧ w'.cell? ⟨w.heap.size, 0, none⟩ = some (.int .i64 n0) ∧ w'.cell? ⟨w.heap.size, 1, none⟩ = some (.slice A'0 l0.length c'0))
        (first | go_keep | exact ⟨(RVar.ext (RVar.extD V2_7.out hx15a) hx15b).c0, (RVar.ext (RVar.extD V2_7.out hx15a) hx15b).c1, (RVar.ext (RVar.extD V0_7.out hx15a) hx15b).c0, (RVar.ext (RVar.extD V0_7.out hx15a) hx15b).c1⟩ | exact ⟨(RVar.extD V2_7.out hx15a).c0, (RVar.extD V2_7.out hx15a).c1, (RVar.extD V0_7.out hx15a).c0, (RVar.extD V0_7.out hx15a).c1⟩)
        (first
          | (go_at_call 42; refine (toRhythm_c n0 l0 _ _ (Ints.drew (Hv0.out.ext X7.out)) (by omega)).mono ?_; rintro e w15a ⟨v15, rfl, ho15, hx15a⟩; obtain ⟨A15, m15, c15, rfl⟩ := ho15.form)
          | (go_at_call 22; refine (eqRhythm_c n0 n0 l0 l0 _ _ _ (Own.ints (Own.ext K1_7.out (Ext.ofD hx15a))) (Own.ints ho15)).mono ?_; rintro e w15b ⟨b15, rfl, hb15, hx15b⟩; obtain rfl := hb15.2 ⟨rfl, rfl⟩; clear hb15)))
    | fail
  have V0_8 := Lib.hid (RVar.ext V0_7.out (Ext.ofD hx15a))
  have V0_9 := Lib.hid (RVar.ext V0_8.out hx15b)
  have hc16a := V0_9.out.c0
  have hc16b := V0_9.out.c1
  have V2_8 := Lib.hid (RVar.ext V2_7.out (Ext.ofD hx15a))
  have V2_9 := Lib.hid (RVar.ext V2_8.out hx15b)
  have hc17a := V2_9.out.c0
  have hc17b := V2_9.out.c1
  go_wp2
  go_ret
  have X8 := Lib.hid (Ext.tr X7.out (Ext.ofD hx15a))
  have X9 := Lib.hid (Ext.tr X8.out hx15b)
  exact ⟨rfl, X9.out⟩

namespace fnExactCountPhasesGlue
set_option maxRecDepth 100000 in
theorem lifted (os : Os) (started : os.Started) (H : Type) (enc : TypeId × Value → H) :
    ReturnsInHanded {} Try.checked os 10 .any (Rows.fnExactCountPhasesSpec.pre6 enc Try.prog Try.f10 Rows.fnExactCountPhasesRow.domain false) (Rows.fnExactCountPhasesSpec.post enc Try.prog Try.f10 false true false false) := by
  refine returnsInHanded_of_change (C := Try.checked) own started (by kernel_rfl) Try.func10
    (ChangeSpec.witness6 (enc := enc) (C := Try.checked) false ⟨#[], #[.agg #[.int .i64 0, .slice none 0 0]], []⟩ 8 (by kernel_rfl) (by kernel_rfl) (by kernel_rfl) (by kernel_rfl)) ?_
  intro W base args ds gs before hval0 hW hcnd _
  have hval : ∀ (j : Nat) t v, Try.f10.params[j]? = some t → args[j]? = some v → Value.okWide Try.prog W .any base t v := hval0
  have hW' := hW
  obtain ⟨p, q, hA0, hV, rfl, hfz, hnd⟩ := hW
  have hA : DataW.TrodAll enc Try.prog W 0 (fun _ => true) true Try.f10.params.toList args.toList ds p := hA0
  rw [Try.params10] at hA hval
  obtain ⟨v0, vs0, d0, ds0, p0, q0, hargs, rfl, rfl, h0, r0⟩ := trodAll_cons hA
  obtain ⟨rfl, rfl, rfl⟩ := trodAll_nil r0
  obtain rfl : args = #[v0] := by cases args; simp_all
  obtain ⟨rfl, rfl⟩ := trodVars_none hV
  have k0 := h0
  have lt0 : ∀ x ∈ p0, x.block < W.heap.size := by obtain ⟨m, hm⟩ := k0; exact DataW.trod_lt m _ _ _ hm
  obtain ⟨n0, u0, l0, rfl, wa0, wb0⟩ := rhy_in (hval 0 24 v0 rfl rfl) h0
  clear hA0 hval0
  refine (lawCountPhases_c n0 l0 u0 W wa0 wb0).mono fun e W' ⟨he, bel⟩ => ?_
  subst he
  exact ⟨_, rfl, _, _, _, [], _, [], hW', trodAll_mk1 (shut_bool Try.underlying4 _), (trodAll_cons_mk (Below.trod laidOut (by kernel_rfl) (of_decide_eq_true (by kernel_rfl)) k0 bel lt0) trodAll_mk0), rfl, bel.frame _, fun h => by cases h⟩
theorem over : Rows.fnExactCountPhasesRow.holds Try.pinned (OpenSpec.ofChange Rows.fnExactCountPhasesSpec) :=
  OpenClaim.holds_of_wide 10 Try.f10 rfl rfl rfl rfl rfl rfl rfl ⟨rfl, rfl, rfl, rfl, rfl⟩ rfl rfl rfl rfl rfl (by kernel_rfl) Try.func10 (by kernel_rfl)
    (of_decide_eq_true (by kernel_rfl)) (by unfold Func.isWrapper; first | (rw [if_pos (by decide +kernel)]; kernel_rfl) | (rw [if_neg (by decide +kernel)]; exact ⟨rfl, rfl⟩))
    (fun os started H enc _ => lifted os started H enc)
end fnExactCountPhasesGlue
/-- THE STATEMENT. -/
theorem fnExactCountPhases_holds : Rows.FnExactCountPhasesSaid := fnExactCountPhasesGlue.over
#print axioms fnExactCountPhases_holds
end Go.Proofs.Ytaiigheknmndnaa
