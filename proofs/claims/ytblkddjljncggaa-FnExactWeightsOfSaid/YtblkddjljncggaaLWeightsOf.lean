/- For every slice of ints the law FnExactWeightsOf returns true: the program's WeightsOf returns what the reference's returns, in new memory, and leaves its argument. Conditions: none beyond the row's own. -/
import Derived.Test.YtblkddjljncggaaFwei
import Derived.Test.YtblkddjljncggaaLawR
import Derived.Test.YtblkddjljncggaaGlue
namespace Go.Proofs.Ytblkddjljncggaa
open Go.ChangeShapes Go.WideShapes Go.ChangeAt Go.RowKit
attribute [local irreducible] wtI
set_option maxHeartbeats 4000000 in
theorem lawWeightsOf_c (l0 : List Int) (v'0 : Value) (w : World) (hv0 : Ints w v'0 l0) : Calls Try.prog 6 #[v'0] w fun e w' => e = .returned (.bool true) ∧ Ext w w' := by
  obtain ⟨A'0, c'0, hve0, hlc0, hcm0, hcell0⟩ := id hv0
  subst hve0
  have Hv0 := Lib.hid hv0
  clear hv0 hcell0
  by_cases hle0 : l0.length ≤ 1048576
  rotate_left
  · go_enter Try.func6, Try.ntmps6
    go_wp2
    go_ret
    exact ⟨rfl, Below.refl _ _⟩
  have hF := wtI_len l0
  go_enter Try.func6, Try.ntmps6
  have tok : True := trivial
  go_wp2_with (first | (go_at_call 23; clear tok; have hz : (l0 : List Int).length ≤ 1099511627776 := (by omega); refine (toIntS_c l0 _ _ (Hv0.out.ext (Below.refl _ _)) hz).mono ?_; clear hz; rintro e w1 ⟨v1, rfl, ho1, hx1⟩; obtain ⟨A1, m1, c1, rfl⟩ := ho1.form))
  have tok : True := trivial
  go_wp2_with (first | (go_at_call 22; clear tok; refine (specWeightsOf_c l0 _ _ (Own.ints ho1)).mono ?_; rintro e w2 ⟨v2, rfl, ho2, hx2⟩; obtain ⟨A2, m2, c2, rfl⟩ := ho2.form))
  have tok : True := trivial
  go_wp2_with (first | (go_at_call 23; clear tok; have hz : (l0 : List Int).length ≤ 1099511627776 := (by omega); refine (toIntS_c l0 _ _ (Hv0.out.ext (Ext.tr (Ext.tr (Below.refl _ _) hx1) hx2)) hz).mono ?_; clear hz; rintro e w3 ⟨v3, rfl, ho3, hx3⟩; obtain ⟨A3, m3, c3, rfl⟩ := ho3.form))
  have tok : True := trivial
  go_wp2_with (first | (go_at_call 24; clear tok; refine (weightsOf_c l0 _ _ (Own.ints ho3)).mono ?_; rintro e w4 ⟨v4, rfl, ho4, hx4⟩; obtain ⟨A4, m4, c4, rfl⟩ := ho4.form))
  have tok : True := trivial
  go_wp2_with (first | (go_at_call 25; clear tok; refine (eqIntS_c (wtI l0) (wtI l0) _ _ _ (Own.ints ho4) (Own.ints (Own.ext (Own.ext ho2 hx3) hx4))).mono ?_; rintro e w5 ⟨b5, rfl, hb5, hx5⟩; obtain rfl := hb5.2 rfl; clear hb5))
  have tok : True := trivial
  go_wp2_with (first | (go_at_call 23; clear tok; have hz : (l0 : List Int).length ≤ 1099511627776 := (by omega); refine (toIntS_c l0 _ _ (Hv0.out.ext (Ext.tr (Ext.tr (Ext.tr (Ext.tr (Ext.tr (Below.refl _ _) hx1) hx2) hx3) hx4) hx5)) hz).mono ?_; clear hz; rintro e w6 ⟨v6, rfl, ho6, hx6⟩; obtain ⟨A6, m6, c6, rfl⟩ := ho6.form))
  have tok : True := trivial
  go_wp2_with (first | (go_at_call 25; clear tok; refine (eqIntS_c l0 l0 _ _ _ (Own.ints (Own.ext (Own.ext (Own.ext ho3 hx4) hx5) hx6)) (Own.ints ho6)).mono ?_; rintro e w7 ⟨b7, rfl, hb7, hx7⟩; obtain rfl := hb7.2 rfl; clear hb7))
  have tok : True := trivial
  go_wp2_with (first | (go_at_call 26; clear tok; refine (markIntS_q l0 1 _ _ (Own.ext (Own.ext (Own.ext (Own.ext ho3 hx4) hx5) hx6) hx7) (by omega) (by omega)).mono ?_; rintro e w8 ⟨q8, rfl, hq8, hl8, hm8, hg8⟩))
  have tok : True := trivial
  go_wp2_with (first | (go_at_call 25; clear tok; refine (eqIntS_c (wtI l0) (wtI l0) _ _ _ (Own.ints (Own.kept (Own.ext (Own.ext (Own.ext ho4 hx5) hx6) hx7) hg8 (Own.apart' ho3 ho4))) (Own.ints (Own.kept (Own.ext (Own.ext (Own.ext (Own.ext (Own.ext ho2 hx3) hx4) hx5) hx6) hx7) hg8 (Own.apart ho2 ho3)))).mono ?_; rintro e w9 ⟨b9, rfl, hb9, hx9⟩; obtain rfl := hb9.2 rfl; clear hb9))
  have tok : True := trivial
  go_wp2_with (first | (go_at_call 26; clear tok; refine (markIntS_q (wtI l0) 1 _ _ (Own.ext (Own.kept (Own.ext (Own.ext (Own.ext ho4 hx5) hx6) hx7) hg8 (Own.apart' ho3 ho4)) hx9) (by omega) (by omega)).mono ?_; rintro e w10 ⟨q10, rfl, hq10, hl10, hm10, hg10⟩))
  have tok : True := trivial
  go_wp2_with (first | (go_at_call 27; clear tok; refine (heldIntS_q ((wtI l0)).length 1 _ _ (Own.ints hm10) (by omega) (by omega)).mono ?_; rintro e wq ⟨q11, rfl, hq11, hl11, rfl⟩; obtain rfl : q10 = q11 := hq10.out.trans hq11.out.symm))
  have tok : True := trivial
  go_wp2_with (first | (go_at_call 23; clear tok; have hz : (l0 : List Int).length ≤ 1099511627776 := (by omega); refine (toIntS_c l0 _ _ (Hv0.out.ext (Ext.mark (Ext.tr (Ext.mark (Ext.tr (Ext.tr (Ext.tr (Ext.tr (Ext.tr (Ext.tr (Ext.tr (Below.refl _ _) hx1) hx2) hx3) hx4) hx5) hx6) hx7) (Own.ext (Own.ext (Own.ext (Own.ext ho3 hx4) hx5) hx6) hx7) hg8 (Ext.tr (Ext.tr (Below.refl _ _) hx1) hx2).size) hx9) (Own.ext (Own.kept (Own.ext (Own.ext (Own.ext ho4 hx5) hx6) hx7) hg8 (Own.apart' ho3 ho4)) hx9) hg10 (Ext.tr (Ext.tr (Ext.tr (Below.refl _ _) hx1) hx2) hx3).size)) hz).mono ?_; clear hz; rintro e w12 ⟨v12, rfl, ho12, hx12⟩; obtain ⟨A12, m12, c12, rfl⟩ := ho12.form))
  have tok : True := trivial
  go_wp2_with (first | (go_at_call 24; clear tok; refine (weightsOf_c l0 _ _ (Own.ints ho12)).mono ?_; rintro e w13 ⟨v13, rfl, ho13, hx13⟩; obtain ⟨A13, m13, c13, rfl⟩ := ho13.form))
  have tok : True := trivial
  go_wp2_with (first | (go_at_call 25; clear tok; refine (eqIntS_c (wtI l0) (wtI l0) _ _ _ (Own.ints ho13) (Own.ints (Own.ext (Own.ext (Own.kept (Own.ext (Own.kept (Own.ext (Own.ext (Own.ext (Own.ext (Own.ext ho2 hx3) hx4) hx5) hx6) hx7) hg8 (Own.apart ho2 ho3)) hx9) hg10 (Own.apart (Own.ext ho2 hx3) ho4)) hx12) hx13))).mono ?_; rintro e w14 ⟨b14, rfl, hb14, hx14⟩; obtain rfl := hb14.2 rfl; clear hb14))
  have tok : True := trivial
  go_wp2_with (first | (go_at_call 27; clear tok; refine (heldIntS_q ((wtI l0)).length 1 _ _ (Own.ints (Own.ext (Own.ext (Own.ext hm10 hx12) hx13) hx14)) (by omega) (by omega)).mono ?_; rintro e wq ⟨q15, rfl, hq15, hl15, rfl⟩; obtain rfl : q10 = q15 := hq10.out.trans hq15.out.symm))
  go_ret
  exact ⟨rfl, (Ext.tr (Ext.tr (Ext.tr (Ext.mark (Ext.tr (Ext.mark (Ext.tr (Ext.tr (Ext.tr (Ext.tr (Ext.tr (Ext.tr (Ext.tr (Below.refl _ _) hx1) hx2) hx3) hx4) hx5) hx6) hx7) (Own.ext (Own.ext (Own.ext (Own.ext ho3 hx4) hx5) hx6) hx7) hg8 (Ext.tr (Ext.tr (Below.refl _ _) hx1) hx2).size) hx9) (Own.ext (Own.kept (Own.ext (Own.ext (Own.ext ho4 hx5) hx6) hx7) hg8 (Own.apart' ho3 ho4)) hx9) hg10 (Ext.tr (Ext.tr (Ext.tr (Below.refl _ _) hx1) hx2) hx3).size) hx12) hx13) hx14)⟩

namespace fnExactWeightsOfGlue
set_option maxRecDepth 100000 in
theorem lifted (os : Os) (started : os.Started) (H : Type) (enc : TypeId × Value → H) :
    ReturnsInHanded {} Try.checked os 6 .any (Rows.fnExactWeightsOfSpec.pre6 enc Try.prog Try.f6 Rows.fnExactWeightsOfRow.domain false) (Rows.fnExactWeightsOfSpec.post enc Try.prog Try.f6 false true false false) := by
  refine returnsInHanded_of_change (C := Try.checked) own started (by kernel_rfl) Try.func6
    (ChangeSpec.witness6 (enc := enc) (C := Try.checked) false ⟨#[], #[.slice none 0 0], []⟩ 8 (by kernel_rfl) (by kernel_rfl) (by kernel_rfl) (by kernel_rfl)) ?_
  intro W base args ds gs before hval0 hW hcnd _
  have hval : ∀ (j : Nat) t v, Try.f6.params[j]? = some t → args[j]? = some v → Value.okWide Try.prog W .any base t v := hval0
  have hW' := hW
  obtain ⟨p, q, hA0, hV, rfl, hfz, hnd⟩ := hW
  have hA : DataW.TrodAll enc Try.prog W 0 (fun _ => true) true Try.f6.params.toList args.toList ds p := hA0
  rw [Try.params6] at hA hval
  obtain ⟨v0, vs0, d0, ds0, p0, q0, hargs, rfl, rfl, h0, r0⟩ := trodAll_cons hA
  obtain ⟨rfl, rfl, rfl⟩ := trodAll_nil r0
  obtain rfl : args = #[v0] := by cases args; simp_all
  obtain ⟨rfl, rfl⟩ := trodVars_none hV
  have k0 := h0
  have lt0 : ∀ x ∈ p0, x.block < W.heap.size := by obtain ⟨m, hm⟩ := k0; exact DataW.trod_lt m _ _ _ hm
  obtain ⟨l0, w0⟩ := ints_in (hval 0 22 v0 rfl rfl) h0
  clear hA0 hval0
  refine (lawWeightsOf_c l0 v0 W w0).mono fun e W' ⟨he, bel⟩ => ?_
  subst he
  exact ⟨_, rfl, _, _, _, [], _, [], hW', trodAll_mk1 (shut_bool Try.underlying4 _), (trodAll_cons_mk (Below.trod laidOut (by kernel_rfl) (of_decide_eq_true (by kernel_rfl)) k0 bel lt0) trodAll_mk0), rfl, bel.frame _, fun h => by cases h⟩
theorem over : Rows.fnExactWeightsOfRow.holds Try.pinned (OpenSpec.ofChange Rows.fnExactWeightsOfSpec) :=
  OpenClaim.holds_of_wide 6 Try.f6 rfl rfl rfl rfl rfl rfl rfl ⟨rfl, rfl, rfl, rfl, rfl⟩ rfl rfl rfl rfl rfl (by kernel_rfl) Try.func6 (by kernel_rfl)
    (of_decide_eq_true (by kernel_rfl)) (by unfold Func.isWrapper; first | (rw [if_pos (by decide +kernel)]; kernel_rfl) | (rw [if_neg (by decide +kernel)]; exact ⟨rfl, rfl⟩))
    (fun os started H enc _ => lifted os started H enc)
end fnExactWeightsOfGlue
/-- THE STATEMENT. -/
theorem fnExactWeightsOf_holds : Rows.FnExactWeightsOfSaid := fnExactWeightsOfGlue.over
#print axioms fnExactWeightsOf_holds
end Go.Proofs.Ytblkddjljncggaa
