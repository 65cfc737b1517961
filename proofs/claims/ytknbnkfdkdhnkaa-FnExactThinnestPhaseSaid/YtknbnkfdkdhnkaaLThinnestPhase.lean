/- For every rhythm the law FnExactThinnestPhase returns true: the program's ThinnestPhase returns what the reference's returns, and leaves its argument. Conditions: none beyond the row's own. -/
import Derived.Test.YtknbnkfdkdhnkaaFpe
import Derived.Test.YtknbnkfdkdhnkaaLawR
import Derived.Test.YtknbnkfdkdhnkaaGlueR
namespace Go.Proofs.Ytknbnkfdkdhnkaa
open Go.ChangeShapes Go.WideShapes Go.ChangeAt Go.RowKit
attribute [local irreducible] lowI
set_option maxHeartbeats 4000000 in
theorem lawThinnestPhase_c (n0 : Int) (l0 : List Int) (v'0 : Value) (w : World) (_ : I64 n0) (hv0 : Ints w v'0 l0) : Calls Try.prog 11 #[.agg #[.int .i64 n0, v'0]] w fun e w' => e = .returned (.bool true) ∧ Ext w w' := by
  obtain ⟨A'0, c'0, hve0, hlc0, hcm0, hcell0⟩ := id hv0
  subst hve0
  have Hv0 := Lib.hid hv0
  clear hv0 hcell0
  have hp0 : RVar (w.alloc (.cells #[.int .i64 n0, (.slice A'0 l0.length c'0)] 37)) (w.heap.size) n0 (.slice A'0 l0.length c'0) := by simpa only [World.size_alloc, Nat.add_assoc] using RVar.new (T := 37) w n0 (.slice A'0 l0.length c'0)
  have Hp0 := Lib.hid hp0
  clear hp0
  have hc1a := Hp0.out.c0
  have hc1b := Hp0.out.c1
  by_cases hle0 : l0.length ≤ 1048576
  rotate_left
  · go_enter Try.func11, Try.ntmps11
    have tok : True := trivial
    go_wp2_with (first | (go_at_call 31; clear tok; refine (szRhythm_f l0 n0 _ _ _ (Hv0.out.ext (Ext.tr (Below.refl _ _) (one_box w (.cells #[.int .i64 n0, (.slice A'0 l0.length c'0)] 37)))) ?_ ?_).mono ?_; (focus omega); (focus omega); rintro e w2 ⟨rfl, hx2⟩))
    go_ret
    exact ⟨rfl, (Ext.tr (Ext.tr (Below.refl _ _) (one_box w (.cells #[.int .i64 n0, (.slice A'0 l0.length c'0)] 37))) hx2)⟩
  go_enter Try.func11, Try.ntmps11
  have tok : True := trivial
  go_wp2_with (first | (go_at_call 31; clear tok; refine (szRhythm_t l0 n0 _ _ _ (Hv0.out.ext (Ext.tr (Below.refl _ _) (one_box w (.cells #[.int .i64 n0, (.slice A'0 l0.length c'0)] 37)))) ?_ ?_).mono ?_; (focus omega); (focus omega); rintro e w3 ⟨q3, rfl, hq3, hq3a, hq3b, hx3⟩; have hc4a := (RVar.ext Hp0.out hx3).c0; have hc4b := (RVar.ext Hp0.out hx3).c1))
  have tok : True := trivial
  go_wp2_with (first | (go_at_call 33; clear tok; refine (toRhythm_c n0 l0 _ _ (Hv0.out.ext (Ext.tr (Ext.tr (Below.refl _ _) (one_box w (.cells #[.int .i64 n0, (.slice A'0 l0.length c'0)] 37))) hx3)) (by omega)).mono ?_; rintro e w5 ⟨v5, rfl, ho5, hx5⟩; obtain ⟨A5, m5, c5, rfl⟩ := ho5.form; have hc6a := (RVar.ext (RVar.ext Hp0.out hx3) hx5).c0; have hc6b := (RVar.ext (RVar.ext Hp0.out hx3) hx5).c1))
  have tok : True := trivial
  go_wp2_with (first | (go_at_call 39; clear tok; refine (specThinnestPhase_c n0 l0 _ _ (Own.ints ho5)).mono ?_; rintro e w7 ⟨rfl, hx7⟩; have hc8a := (RVar.ext (RVar.ext (RVar.ext Hp0.out hx3) hx5) hx7).c0; have hc8b := (RVar.ext (RVar.ext (RVar.ext Hp0.out hx3) hx5) hx7).c1))
  have tok : True := trivial
  go_wp2_with (first | (go_at_call 33; clear tok; refine (toRhythm_c n0 l0 _ _ (Hv0.out.ext (Ext.tr (Ext.tr (Ext.tr (Ext.tr (Below.refl _ _) (one_box w (.cells #[.int .i64 n0, (.slice A'0 l0.length c'0)] 37))) hx3) hx5) hx7)) (by omega)).mono ?_; rintro e w9 ⟨v9, rfl, ho9, hx9⟩; obtain ⟨A9, m9, c9, rfl⟩ := ho9.form; have hc10a := (RVar.ext (RVar.ext (RVar.ext (RVar.ext (RVar.ext Hp0.out hx3) hx5) hx7) hx9) (one_box w9 (.cells #[.int .i64 n0, (.slice A9 m9 c9)] 24))).c0; have hc10b := (RVar.ext (RVar.ext (RVar.ext (RVar.ext (RVar.ext Hp0.out hx3) hx5) hx7) hx9) (one_box w9 (.cells #[.int .i64 n0, (.slice A9 m9 c9)] 24))).c1; have hc11a := (RVar.new (T := 24) w9 n0 (.slice A9 m9 c9)).c0; have hc11b := (RVar.new (T := 24) w9 n0 (.slice A9 m9 c9)).c1))
  have tok : True := trivial
  go_wp2_with (first | (go_at_call 40; clear tok; refine (thinnestPhase_c n0 l0 _ _ (Own.ints (Own.ext ho9 (one_box w9 (.cells #[.int .i64 n0, (.slice A9 m9 c9)] 24))))).mono ?_; rintro e w12 ⟨rfl, hx12⟩; have hc13a := (RVar.ext (RVar.ext (RVar.ext (RVar.ext (RVar.ext (RVar.ext Hp0.out hx3) hx5) hx7) hx9) (one_box w9 (.cells #[.int .i64 n0, (.slice A9 m9 c9)] 24))) hx12).c0; have hc13b := (RVar.ext (RVar.ext (RVar.ext (RVar.ext (RVar.ext (RVar.ext Hp0.out hx3) hx5) hx7) hx9) (one_box w9 (.cells #[.int .i64 n0, (.slice A9 m9 c9)] 24))) hx12).c1; have hc14a := (RVar.ext (RVar.new (T := 24) w9 n0 (.slice A9 m9 c9)) hx12).c0; have hc14b := (RVar.ext (RVar.new (T := 24) w9 n0 (.slice A9 m9 c9)) hx12).c1))
  go_wp2
  first
    | (go_region_held3 (fun w' => w'.cell? ⟨w9.heap.size, 0, none⟩ = some (.int .i64 n0) ∧ w'.cell? ⟨w9.heap.size, 1, none⟩ = some (.slice A9 m9 c9) ∧ w'.cell? ⟨w.heap.size, 0, none⟩ = some (.int .i64 n0) ∧ w'.cell? ⟨w.heap.size, 1, none⟩ = some (.slice A'0 l0.length c'0))
        (first | go_keep | exact ⟨(RVar.ext (RVar.extD (RVar.ext (RVar.new (T := 24) w9 n0 (.slice A9 m9 c9)) hx12) hx15a) hx15b).c0, (RVar.ext (RVar.extD (RVar.ext (RVar.new (T := 24) w9 n0 (.slice A9 m9 c9)) hx12) hx15a) hx15b).c1, (RVar.ext (RVar.extD (RVar.ext (RVar.ext (RVar.ext (RVar.ext (RVar.ext (RVar.ext Hp0.out hx3) hx5) hx7) hx9) (one_box w9 (.cells #[.int .i64 n0, (.slice A9 m9 c9)] 24))) hx12) hx15a) hx15b).c0, (RVar.ext (RVar.extD (RVar.ext (RVar.ext (RVar.ext (RVar.ext (RVar.ext (RVar.ext Hp0.out hx3) hx5) hx7) hx9) (one_box w9 (.cells #[.int .i64 n0, (.slice A9 m9 c9)] 24))) hx12) hx15a) hx15b).c1⟩ | exact ⟨(RVar.extD (RVar.ext (RVar.new (T := 24) w9 n0 (.slice A9 m9 c9)) hx12) hx15a).c0, (RVar.extD (RVar.ext (RVar.new (T := 24) w9 n0 (.slice A9 m9 c9)) hx12) hx15a).c1, (RVar.extD (RVar.ext (RVar.ext (RVar.ext (RVar.ext (RVar.ext (RVar.ext Hp0.out hx3) hx5) hx7) hx9) (one_box w9 (.cells #[.int .i64 n0, (.slice A9 m9 c9)] 24))) hx12) hx15a).c0, (RVar.extD (RVar.ext (RVar.ext (RVar.ext (RVar.ext (RVar.ext (RVar.ext Hp0.out hx3) hx5) hx7) hx9) (one_box w9 (.cells #[.int .i64 n0, (.slice A9 m9 c9)] 24))) hx12) hx15a).c1⟩)
        (first
          | (go_at_call 33; refine (toRhythm_c n0 l0 _ _ (Ints.drew (Hv0.out.ext (Ext.tr (Ext.tr (Ext.tr (Ext.tr (Ext.tr (Ext.tr (Ext.tr (Below.refl _ _) (one_box w (.cells #[.int .i64 n0, (.slice A'0 l0.length c'0)] 37))) hx3) hx5) hx7) hx9) (one_box w9 (.cells #[.int .i64 n0, (.slice A9 m9 c9)] 24))) hx12))) (by omega)).mono ?_; rintro e w15a ⟨v15, rfl, ho15, hx15a⟩; obtain ⟨A15, m15, c15, rfl⟩ := ho15.form)
          | (go_at_call 17; refine (eqRhythm_c n0 n0 l0 l0 _ _ _ (Own.ints (Own.ext (Own.ext (Own.ext ho9 (one_box w9 (.cells #[.int .i64 n0, (.slice A9 m9 c9)] 24))) hx12) (Ext.ofD hx15a))) (Own.ints ho15)).mono ?_; rintro e w15b ⟨b15, rfl, hb15, hx15b⟩; obtain rfl := hb15.2 ⟨rfl, rfl⟩; clear hb15)))
    | fail
  have hc16a := (RVar.ext (RVar.ext (RVar.ext (RVar.ext (RVar.ext (RVar.ext (RVar.ext (RVar.ext Hp0.out hx3) hx5) hx7) hx9) (one_box w9 (.cells #[.int .i64 n0, (.slice A9 m9 c9)] 24))) hx12) (Ext.ofD hx15a)) hx15b).c0
  have hc16b := (RVar.ext (RVar.ext (RVar.ext (RVar.ext (RVar.ext (RVar.ext (RVar.ext (RVar.ext Hp0.out hx3) hx5) hx7) hx9) (one_box w9 (.cells #[.int .i64 n0, (.slice A9 m9 c9)] 24))) hx12) (Ext.ofD hx15a)) hx15b).c1
  have hc17a := (RVar.ext (RVar.ext (RVar.ext (RVar.new (T := 24) w9 n0 (.slice A9 m9 c9)) hx12) (Ext.ofD hx15a)) hx15b).c0
  have hc17b := (RVar.ext (RVar.ext (RVar.ext (RVar.new (T := 24) w9 n0 (.slice A9 m9 c9)) hx12) (Ext.ofD hx15a)) hx15b).c1
  go_wp2
  go_ret
  exact ⟨rfl, (Ext.tr (Ext.tr (Ext.tr (Ext.tr (Ext.tr (Ext.tr (Ext.tr (Ext.tr (Ext.tr (Below.refl _ _) (one_box w (.cells #[.int .i64 n0, (.slice A'0 l0.length c'0)] 37))) hx3) hx5) hx7) hx9) (one_box w9 (.cells #[.int .i64 n0, (.slice A9 m9 c9)] 24))) hx12) (Ext.ofD hx15a)) hx15b)⟩

namespace fnExactThinnestPhaseGlue
set_option maxRecDepth 100000 in
theorem lifted (os : Os) (started : os.Started) (H : Type) (enc : TypeId × Value → H) :
    ReturnsInHanded {} Try.checked os 11 .any (Rows.fnExactThinnestPhaseSpec.pre6 enc Try.prog Try.f11 Rows.fnExactThinnestPhaseRow.domain false) (Rows.fnExactThinnestPhaseSpec.post enc Try.prog Try.f11 false true false false) := by
  refine returnsInHanded_of_change (C := Try.checked) own started (by kernel_rfl) Try.func11
    (ChangeSpec.witness6 (enc := enc) (C := Try.checked) false ⟨#[], #[.agg #[.int .i64 0, .slice none 0 0]], []⟩ 8 (by kernel_rfl) (by kernel_rfl) (by kernel_rfl) (by kernel_rfl)) ?_
  intro W base args ds gs before hval0 hW hcnd _
  have hval : ∀ (j : Nat) t v, Try.f11.params[j]? = some t → args[j]? = some v → Value.okWide Try.prog W .any base t v := hval0
  have hW' := hW
  obtain ⟨p, q, hA0, hV, rfl, hfz, hnd⟩ := hW
  have hA : DataW.TrodAll enc Try.prog W 0 (fun _ => true) true Try.f11.params.toList args.toList ds p := hA0
  rw [Try.params11] at hA hval
  obtain ⟨v0, vs0, d0, ds0, p0, q0, hargs, rfl, rfl, h0, r0⟩ := trodAll_cons hA
  obtain ⟨rfl, rfl, rfl⟩ := trodAll_nil r0
  obtain rfl : args = #[v0] := by cases args; simp_all
  obtain ⟨rfl, rfl⟩ := trodVars_none hV
  have k0 := h0
  have lt0 : ∀ x ∈ p0, x.block < W.heap.size := by obtain ⟨m, hm⟩ := k0; exact DataW.trod_lt m _ _ _ hm
  obtain ⟨n0, u0, l0, rfl, wa0, wb0⟩ := rhy_in (hval 0 37 v0 rfl rfl) h0
  clear hA0 hval0
  refine (lawThinnestPhase_c n0 l0 u0 W wa0 wb0).mono fun e W' ⟨he, bel⟩ => ?_
  subst he
  exact ⟨_, rfl, _, _, _, [], _, [], hW', trodAll_mk1 (shut_bool Try.underlying4 _), (trodAll_cons_mk (Below.trod laidOut (by kernel_rfl) (of_decide_eq_true (by kernel_rfl)) k0 bel lt0) trodAll_mk0), rfl, bel.frame _, fun h => by cases h⟩
theorem over : Rows.fnExactThinnestPhaseRow.holds Try.pinned (OpenSpec.ofChange Rows.fnExactThinnestPhaseSpec) :=
  OpenClaim.holds_of_wide 11 Try.f11 rfl rfl rfl rfl rfl rfl rfl ⟨rfl, rfl, rfl, rfl, rfl⟩ rfl rfl rfl rfl rfl (by kernel_rfl) Try.func11 (by kernel_rfl)
    (of_decide_eq_true (by kernel_rfl)) (by unfold Func.isWrapper; first | (rw [if_pos (by decide +kernel)]; kernel_rfl) | (rw [if_neg (by decide +kernel)]; exact ⟨rfl, rfl⟩))
    (fun os started H enc _ => lifted os started H enc)
end fnExactThinnestPhaseGlue
/-- THE STATEMENT. -/
theorem fnExactThinnestPhase_holds : Rows.FnExactThinnestPhaseSaid := fnExactThinnestPhaseGlue.over
#print axioms fnExactThinnestPhase_holds
end Go.Proofs.Ytknbnkfdkdhnkaa
