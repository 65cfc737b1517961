/- For every int the law FnExactMetersOf returns true: the program's MetersOf returns what the reference's returns, in new memory. Conditions: none beyond the row's own. -/
import Derived.Test.YtblkddjljncggaaFmto
import Derived.Test.YtblkddjljncggaaLawL
import Derived.Test.YtblkddjljncggaaGlue
namespace Go.Proofs.Ytblkddjljncggaa
open Go.ChangeShapes Go.WideShapes Go.ChangeAt Go.RowKit
attribute [local irreducible] metL
set_option maxHeartbeats 4000000 in
theorem lawMetersOf_c (a0 : Int) (w : World) (_ : I64 a0) : Calls Try.prog 5 #[.int .i64 a0] w fun e w' => e = .returned (.bool true) ∧ Ext w w' := by
  have hF := metL_len a0
  have Hall := Lib.hid (metL_all a0)
  go_enter Try.func5, Try.ntmps5
  have tok : True := trivial
  go_wp2_with (first | (go_at_call 17; clear tok; refine (specMetersOf_c a0 _).mono ?_; rintro e w1 ⟨v1, us1, rfl, ho1, hx1⟩))
  have tok : True := trivial
  go_wp2_with (first | (go_at_call 18; clear tok; refine (metersOf_c a0 _).mono ?_; rintro e w2 ⟨v2, us2, rfl, ho2, hx2⟩))
  have K0_2 := Lib.hid (Lss.ext ho1 hx2)
  have tok : True := trivial
  go_wp2_with (first | (go_at_call 19; clear tok; refine (eqIntSS_c (metL a0) (metL a0) _ _ _ _ _ _ _ ho2 K0_2.out (by omega)).mono ?_; rintro e w3 ⟨b3, rfl, hb3, hx3⟩; obtain rfl := hb3.2 rfl; clear hb3))
  have K1_3 := Lib.hid (Lss.ext ho2 hx3)
  have tok : True := trivial
  go_wp2_with (first | (go_at_call 20; clear tok; refine (markIntSS_c (metL a0) 1 _ _ _ _ K1_3.out Hall.out (by omega) (by omega)).mono ?_; rintro e w4 ⟨q4, us4, rfl, hq4, hl4, hmw4, hbw4⟩))
  have K1_4 := Lib.hid hmw4
  have tok : True := trivial
  go_wp2_with (first | (go_at_call 21; clear tok; refine (heldIntSS_c (metL a0) 1 _ _ _ _ K1_4.out Hall.out (by omega) (by omega)).mono ?_; rintro e wq ⟨q5, rfl, hq5, rfl⟩; obtain rfl : q4 = q5 := hq4.out.trans hq5.out.symm))
  have tok : True := trivial
  go_wp2_with (first | (go_at_call 18; clear tok; refine (metersOf_c a0 _).mono ?_; rintro e w6 ⟨v6, us6, rfl, ho6, hx6⟩))
  have K0_3 := Lib.hid (Lss.ext K0_2.out hx3)
  have K0_4 := Lib.hid (Lss.keptB K0_3.out ho1 hbw4)
  have K0_5 := Lib.hid (Lss.ext K0_4.out hx6)
  have tok : True := trivial
  go_wp2_with (first | (go_at_call 19; clear tok; refine (eqIntSS_c (metL a0) (metL a0) _ _ _ _ _ _ _ ho6 K0_5.out (by omega)).mono ?_; rintro e w7 ⟨b7, rfl, hb7, hx7⟩; obtain rfl := hb7.2 rfl; clear hb7))
  have K1_5 := Lib.hid (Lss.ext K1_4.out hx6)
  have K1_6 := Lib.hid (Lss.ext K1_5.out hx7)
  have tok : True := trivial
  go_wp2_with (first | (go_at_call 21; clear tok; refine (heldIntSS_c (metL a0) 1 _ _ _ _ K1_6.out Hall.out (by omega) (by omega)).mono ?_; rintro e wq ⟨q8, rfl, hq8, rfl⟩; obtain rfl : q4 = q8 := hq4.out.trans hq8.out.symm))
  go_ret
  have X1 := Lib.hid (Ext.tr (Below.refl w.heap.size w) hx1)
  have X2 := Lib.hid (Ext.tr X1.out hx2)
  have X3 := Lib.hid (Ext.tr X2.out hx3)
  have X4 := Lib.hid (Ext.markS X3.out hbw4 X1.out.size)
  have X5 := Lib.hid (Ext.tr X4.out hx6)
  have X6 := Lib.hid (Ext.tr X5.out hx7)
  exact ⟨rfl, X6.out⟩

namespace fnExactMetersOfGlue
set_option maxRecDepth 100000 in
theorem lifted (os : Os) (started : os.Started) (H : Type) (enc : TypeId × Value → H) :
    ReturnsInHanded {} Try.checked os 5 .any (Rows.fnExactMetersOfSpec.pre6 enc Try.prog Try.f5 Rows.fnExactMetersOfRow.domain false) (Rows.fnExactMetersOfSpec.post enc Try.prog Try.f5 false true false false) := by
  refine returnsInHanded_of_change (C := Try.checked) own started (by kernel_rfl) Try.func5
    (ChangeSpec.witness6 (enc := enc) (C := Try.checked) false ⟨#[], #[.int .i64 0], []⟩ 8 (by kernel_rfl) (by kernel_rfl) (by kernel_rfl) (by kernel_rfl)) ?_
  intro W base args ds gs before hval0 hW hcnd _
  have hval : ∀ (j : Nat) t v, Try.f5.params[j]? = some t → args[j]? = some v → Value.okWide Try.prog W .any base t v := hval0
  have hW' := hW
  obtain ⟨p, q, hA0, hV, rfl, hfz, hnd⟩ := hW
  have hA : DataW.TrodAll enc Try.prog W 0 (fun _ => true) true Try.f5.params.toList args.toList ds p := hA0
  rw [Try.params5] at hA hval
  obtain ⟨v0, vs0, d0, ds0, p0, q0, hargs, rfl, rfl, h0, r0⟩ := trodAll_cons hA
  obtain ⟨rfl, rfl, rfl⟩ := trodAll_nil r0
  obtain rfl : args = #[v0] := by cases args; simp_all
  obtain ⟨rfl, rfl⟩ := trodVars_none hV
  obtain ⟨a0, rfl, rfl, rfl, w0⟩ := open_int Try.underlying3 (hval 0 3 v0 rfl rfl) h0
  clear hA0 hval0
  refine (lawMetersOf_c a0 W (I64.of_wf w0)).mono fun e W' ⟨he, bel⟩ => ?_
  subst he
  exact ⟨_, rfl, _, _, _, [], _, [], hW', trodAll_mk1 (shut_bool Try.underlying4 _), (trodAll_cons_mk (shut_int Try.underlying3 w0) trodAll_mk0), rfl, bel.frame _, fun h => by cases h⟩
theorem over : Rows.fnExactMetersOfRow.holds Try.pinned (OpenSpec.ofChange Rows.fnExactMetersOfSpec) :=
  OpenClaim.holds_of_wide 5 Try.f5 rfl rfl rfl rfl rfl rfl rfl ⟨rfl, rfl, rfl, rfl, rfl⟩ rfl rfl rfl rfl rfl (by kernel_rfl) Try.func5 (by kernel_rfl)
    (of_decide_eq_true (by kernel_rfl)) (by unfold Func.isWrapper; first | (rw [if_pos (by decide +kernel)]; kernel_rfl) | (rw [if_neg (by decide +kernel)]; exact ⟨rfl, rfl⟩))
    (fun os started H enc _ => lifted os started H enc)
end fnExactMetersOfGlue
/-- THE STATEMENT. -/
theorem fnExactMetersOf_holds : Rows.FnExactMetersOfSaid := fnExactMetersOfGlue.over
#print axioms fnExactMetersOf_holds
end Go.Proofs.Ytblkddjljncggaa
