/- For all ints the law FnExactMeetingsOf returns true: the program's MeetingsOf returns what the reference's returns, in new memory. Conditions: none beyond the row's own. -/
import Derived.Test.YtknbnkfdkdhnkaaFmeo
import Derived.Test.YtknbnkfdkdhnkaaLawR
import Derived.Test.YtknbnkfdkdhnkaaGlue
namespace Go.Proofs.Ytknbnkfdkdhnkaa
open Go.ChangeShapes Go.WideShapes Go.ChangeAt Go.RowKit
attribute [local irreducible] meetL
set_option maxHeartbeats 4000000 in
theorem lawMeetingsOf_c (a0 : Int) (a1 : Int) (a2 : Int) (w : World) (_ : I64 a0) (_ : I64 a1) (_ : I64 a2) : Calls Try.prog 4 #[.int .i64 a0, .int .i64 a1, .int .i64 a2] w fun e w' => e = .returned (.bool true) ∧ Ext w w' := by
  have hF := meetL_len a0 a1 a2
  go_enter Try.func4, Try.ntmps4
  have tok : True := trivial
  go_wp2_with (first | (go_at_call 20; clear tok; refine (specMeetingsOf_c a0 a1 a2 _).mono ?_; rintro e w1 ⟨v1, rfl, ho1, hx1⟩; obtain ⟨A1, m1, c1, rfl⟩ := ho1.form))
  have tok : True := trivial
  go_wp2_with (first | (go_at_call 21; clear tok; refine (meetingsOf_c a0 a1 a2 _).mono ?_; rintro e w2 ⟨v2, rfl, ho2, hx2⟩; obtain ⟨A2, m2, c2, rfl⟩ := ho2.form))
  have tok : True := trivial
  go_wp2_with (first | (go_at_call 22; clear tok; refine (eqIntS_c (meetL a0 a1 a2) (meetL a0 a1 a2) _ _ _ (Own.ints ho2) (Own.ints (Own.ext ho1 hx2))).mono ?_; rintro e w3 ⟨b3, rfl, hb3, hx3⟩; obtain rfl := hb3.2 rfl; clear hb3))
  have tok : True := trivial
  go_wp2_with (first | (go_at_call 23; clear tok; refine (markIntS_q (meetL a0 a1 a2) 1 _ _ (Own.ext ho2 hx3) (by omega) (by omega)).mono ?_; rintro e w4 ⟨q4, rfl, hq4, hl4, hm4, hg4⟩))
  have tok : True := trivial
  go_wp2_with (first | (go_at_call 24; clear tok; refine (heldIntS_q ((meetL a0 a1 a2)).length 1 _ _ (Own.ints hm4) (by omega) (by omega)).mono ?_; rintro e wq ⟨q5, rfl, hq5, hl5, rfl⟩; obtain rfl : q4 = q5 := hq4.out.trans hq5.out.symm))
  have tok : True := trivial
  go_wp2_with (first | (go_at_call 21; clear tok; refine (meetingsOf_c a0 a1 a2 _).mono ?_; rintro e w6 ⟨v6, rfl, ho6, hx6⟩; obtain ⟨A6, m6, c6, rfl⟩ := ho6.form))
  have tok : True := trivial
  go_wp2_with (first | (go_at_call 22; clear tok; refine (eqIntS_c (meetL a0 a1 a2) (meetL a0 a1 a2) _ _ _ (Own.ints ho6) (Own.ints (Own.ext (Own.kept (Own.ext (Own.ext ho1 hx2) hx3) hg4 (Own.apart ho1 ho2)) hx6))).mono ?_; rintro e w7 ⟨b7, rfl, hb7, hx7⟩; obtain rfl := hb7.2 rfl; clear hb7))
  have tok : True := trivial
  go_wp2_with (first | (go_at_call 24; clear tok; refine (heldIntS_q ((meetL a0 a1 a2)).length 1 _ _ (Own.ints (Own.ext (Own.ext hm4 hx6) hx7)) (by omega) (by omega)).mono ?_; rintro e wq ⟨q8, rfl, hq8, hl8, rfl⟩; obtain rfl : q4 = q8 := hq4.out.trans hq8.out.symm))
  go_ret
  exact ⟨rfl, (Ext.tr (Ext.tr (Ext.mark (Ext.tr (Ext.tr (Ext.tr (Below.refl _ _) hx1) hx2) hx3) (Own.ext ho2 hx3) hg4 (Ext.tr (Below.refl _ _) hx1).size) hx6) hx7)⟩

namespace fnExactMeetingsOfGlue
set_option maxRecDepth 100000 in
theorem lifted (os : Os) (started : os.Started) (H : Type) (enc : TypeId × Value → H) :
    ReturnsInHanded {} Try.checked os 4 .any (Rows.fnExactMeetingsOfSpec.pre6 enc Try.prog Try.f4 Rows.fnExactMeetingsOfRow.domain false) (Rows.fnExactMeetingsOfSpec.post enc Try.prog Try.f4 false true false false) := by
  refine returnsInHanded_of_change (C := Try.checked) own started (by kernel_rfl) Try.func4
    (ChangeSpec.witness6 (enc := enc) (C := Try.checked) false ⟨#[], #[.int .i64 0, .int .i64 0, .int .i64 0], []⟩ 8 (by kernel_rfl) (by kernel_rfl) (by kernel_rfl) (by kernel_rfl)) ?_
  intro W base args ds gs before hval0 hW hcnd _
  have hval : ∀ (j : Nat) t v, Try.f4.params[j]? = some t → args[j]? = some v → Value.okWide Try.prog W .any base t v := hval0
  have hW' := hW
  obtain ⟨p, q, hA0, hV, rfl, hfz, hnd⟩ := hW
  have hA : DataW.TrodAll enc Try.prog W 0 (fun _ => true) true Try.f4.params.toList args.toList ds p := hA0
  rw [Try.params4] at hA hval
  obtain ⟨v0, vs0, d0, ds0, p0, q0, hargs, rfl, rfl, h0, r0⟩ := trodAll_cons hA
  obtain ⟨v1, vs1, d1, ds1, p1, q1, rfl, rfl, rfl, h1, r1⟩ := trodAll_cons r0
  obtain ⟨v2, vs2, d2, ds2, p2, q2, rfl, rfl, rfl, h2, r2⟩ := trodAll_cons r1
  obtain ⟨rfl, rfl, rfl⟩ := trodAll_nil r2
  obtain rfl : args = #[v0, v1, v2] := by cases args; simp_all
  obtain ⟨rfl, rfl⟩ := trodVars_none hV
  obtain ⟨a0, rfl, rfl, rfl, w0⟩ := open_int Try.underlying3 (hval 0 3 v0 rfl rfl) h0
  obtain ⟨a1, rfl, rfl, rfl, w1⟩ := open_int Try.underlying3 (hval 1 3 v1 rfl rfl) h1
  obtain ⟨a2, rfl, rfl, rfl, w2⟩ := open_int Try.underlying3 (hval 2 3 v2 rfl rfl) h2
  clear hA0 hval0
  refine (lawMeetingsOf_c a0 a1 a2 W (I64.of_wf w0) (I64.of_wf w1) (I64.of_wf w2)).mono fun e W' ⟨he, bel⟩ => ?_
  subst he
  exact ⟨_, rfl, _, _, _, [], _, [], hW', trodAll_mk1 (shut_bool Try.underlying4 _), (trodAll_cons_mk (shut_int Try.underlying3 w0) (trodAll_cons_mk (shut_int Try.underlying3 w1) (trodAll_cons_mk (shut_int Try.underlying3 w2) trodAll_mk0))), rfl, bel.frame _, fun h => by cases h⟩
theorem over : Rows.fnExactMeetingsOfRow.holds Try.pinned (OpenSpec.ofChange Rows.fnExactMeetingsOfSpec) :=
  OpenClaim.holds_of_wide 4 Try.f4 rfl rfl rfl rfl rfl rfl rfl ⟨rfl, rfl, rfl, rfl, rfl⟩ rfl rfl rfl rfl rfl (by kernel_rfl) Try.func4 (by kernel_rfl)
    (of_decide_eq_true (by kernel_rfl)) (by unfold Func.isWrapper; first | (rw [if_pos (by decide +kernel)]; kernel_rfl) | (rw [if_neg (by decide +kernel)]; exact ⟨rfl, rfl⟩))
    (fun os started H enc _ => lifted os started H enc)
end fnExactMeetingsOfGlue
/-- THE STATEMENT. -/
theorem fnExactMeetingsOf_holds : Rows.FnExactMeetingsOfSaid := fnExactMeetingsOfGlue.over
#print axioms fnExactMeetingsOf_holds
end Go.Proofs.Ytknbnkfdkdhnkaa
