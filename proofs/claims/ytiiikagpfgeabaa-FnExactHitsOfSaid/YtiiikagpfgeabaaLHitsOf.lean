/- For every pattern and every list of entries the law FnExactHitsOf returns true: the program's HitsOf returns what the reference's returns, leaves its arguments, and hands back memory of its own. Conditions: none beyond the row's own. -/
import Derived.Test.YtiiikagpfgeabaaFhit
import Derived.Test.YtiiikagpfgeabaaLaw
import Derived.Test.YtiiikagpfgeabaaGlue
namespace Go.Proofs.Ytiiikagpfgeabaa
open Go.ChangeShapes Go.WideShapes Go.ChangeAt Go.RowKit
attribute [local irreducible] hitI
set_option maxHeartbeats 4000000 in
theorem lawHitsOf_c (l0 : List Int) (v'0 : Value) (l1 : List Int) (v'1 : Value) (w : World) (hv0 : Ints w v'0 l0) (hv1 : Ints w v'1 l1) : Calls Try.prog 12 #[v'0, v'1] w fun e w' => e = .returned (.bool true) ∧ Ext w w' := by
  obtain ⟨A0, c0, hve0, hlc0, hcm0, hcell0⟩ := id hv0
  subst hve0
  have Hv0 := Lib.hid hv0
  clear hv0 hcell0
  obtain ⟨A1, c1, hve1, hlc1, hcm1, hcell1⟩ := id hv1
  subst hve1
  have Hv1 := Lib.hid hv1
  clear hv1 hcell1
  by_cases hle0 : l0.length ≤ 1048576
  rotate_left
  · go_enter Try.func12, Try.ntmps12
    go_wp2
    go_ret
    exact ⟨rfl, Below.refl _ _⟩
  by_cases hle1 : l1.length ≤ 1048576
  rotate_left
  · go_enter Try.func12, Try.ntmps12
    go_wp2
    go_ret
    exact ⟨rfl, Below.refl _ _⟩
  have hF := hitI_len l0 l1
  · go_enter Try.func12, Try.ntmps12
    have tok : True := trivial
    go_wp2_with (first | (go_at_call 19; clear tok; have hz : (l0 : List Int).length ≤ 1099511627776 := (by omega); refine (toIntS_c l0 _ _ (Hv0.out.ext (Below.refl _ _)) hz).mono ?_; clear hz; rintro e w1 ⟨v1, rfl, ho1, hx1⟩))
    have tok : True := trivial
    go_wp2_with (first | (go_at_call 19; clear tok; have hz : (l1 : List Int).length ≤ 1099511627776 := (by omega); refine (toIntS_c l1 _ _ (Hv1.out.ext (Ext.tr (Below.refl _ _) hx1)) hz).mono ?_; clear hz; rintro e w2 ⟨v2, rfl, ho2, hx2⟩))
    have tok : True := trivial
    go_wp2_with (first | (go_at_call 36; clear tok; refine (specHitsOf_c l0 l1 _ _ _ (Own.ints (Own.ext ho1 hx2)) (Own.ints ho2)).mono ?_; rintro e w3 ⟨v3, rfl, ho3, hx3⟩))
    have tok : True := trivial
    go_wp2_with (first | (go_at_call 19; clear tok; have hz : (l0 : List Int).length ≤ 1099511627776 := (by omega); refine (toIntS_c l0 _ _ (Hv0.out.ext (Ext.tr (Ext.tr (Ext.tr (Below.refl _ _) hx1) hx2) hx3)) hz).mono ?_; clear hz; rintro e w4 ⟨v4, rfl, ho4, hx4⟩))
    have tok : True := trivial
    go_wp2_with (first | (go_at_call 19; clear tok; have hz : (l1 : List Int).length ≤ 1099511627776 := (by omega); refine (toIntS_c l1 _ _ (Hv1.out.ext (Ext.tr (Ext.tr (Ext.tr (Ext.tr (Below.refl _ _) hx1) hx2) hx3) hx4)) hz).mono ?_; clear hz; rintro e w5 ⟨v5, rfl, ho5, hx5⟩))
    have tok : True := trivial
    go_wp2_with (first | (go_at_call 37; clear tok; refine (hitsOf_c l0 l1 _ _ _ (Own.ints (Own.ext ho4 hx5)) (Own.ints ho5)).mono ?_; rintro e w6 ⟨v6, rfl, ho6, hx6⟩))
    have tok : True := trivial
    go_wp2_with (first | (go_at_call 21; clear tok; refine (eqIntS_c (hitI l0 l1) (hitI l0 l1) _ _ _ (Own.ints ho6) (Own.ints (Own.ext (Own.ext (Own.ext ho3 hx4) hx5) hx6))).mono ?_; rintro e w7 ⟨b7, rfl, hb7, hx7⟩; obtain rfl := hb7.2 rfl; clear hb7))
    have tok : True := trivial
    go_wp2_with (first | (go_at_call 19; clear tok; have hz : (l0 : List Int).length ≤ 1099511627776 := (by omega); refine (toIntS_c l0 _ _ (Hv0.out.ext (Ext.tr (Ext.tr (Ext.tr (Ext.tr (Ext.tr (Ext.tr (Ext.tr (Below.refl _ _) hx1) hx2) hx3) hx4) hx5) hx6) hx7)) hz).mono ?_; clear hz; rintro e w8 ⟨v8, rfl, ho8, hx8⟩))
    have tok : True := trivial
    go_wp2_with (first | (go_at_call 21; clear tok; refine (eqIntS_c l0 l0 _ _ _ (Own.ints (Own.ext (Own.ext (Own.ext (Own.ext ho4 hx5) hx6) hx7) hx8)) (Own.ints ho8)).mono ?_; rintro e w9 ⟨b9, rfl, hb9, hx9⟩; obtain rfl := hb9.2 rfl; clear hb9))
    have tok : True := trivial
    go_wp2_with (first | (go_at_call 19; clear tok; have hz : (l1 : List Int).length ≤ 1099511627776 := (by omega); refine (toIntS_c l1 _ _ (Hv1.out.ext (Ext.tr (Ext.tr (Ext.tr (Ext.tr (Ext.tr (Ext.tr (Ext.tr (Ext.tr (Ext.tr (Below.refl _ _) hx1) hx2) hx3) hx4) hx5) hx6) hx7) hx8) hx9)) hz).mono ?_; clear hz; rintro e w10 ⟨v10, rfl, ho10, hx10⟩))
    have tok : True := trivial
    go_wp2_with (first | (go_at_call 21; clear tok; refine (eqIntS_c l1 l1 _ _ _ (Own.ints (Own.ext (Own.ext (Own.ext (Own.ext (Own.ext ho5 hx6) hx7) hx8) hx9) hx10)) (Own.ints ho10)).mono ?_; rintro e w11 ⟨b11, rfl, hb11, hx11⟩; obtain rfl := hb11.2 rfl; clear hb11))
    have tok : True := trivial
    go_wp2_with (first | (go_at_call 26; clear tok; refine (markIntS_q l0 1 _ _ (Own.ext (Own.ext (Own.ext (Own.ext (Own.ext (Own.ext (Own.ext ho4 hx5) hx6) hx7) hx8) hx9) hx10) hx11) (by omega) (by omega)).mono ?_; rintro e w12 ⟨q12, rfl, hq12, hl12, hm12, hg12⟩))
    have tok : True := trivial
    go_wp2_with (first | (go_at_call 26; clear tok; refine (markIntS_q l1 q12 _ _ (Own.kept (Own.ext (Own.ext (Own.ext (Own.ext (Own.ext (Own.ext ho5 hx6) hx7) hx8) hx9) hx10) hx11) hg12 (Own.apart' ho4 ho5)) (by omega) (by omega)).mono ?_; rintro e w13 ⟨q13, rfl, hq13, hl13, hm13, hg13⟩))
    have tok : True := trivial
    go_wp2_with (first | (go_at_call 21; clear tok; refine (eqIntS_c (hitI l0 l1) (hitI l0 l1) _ _ _ (Own.ints (Own.kept (Own.kept (Own.ext (Own.ext (Own.ext (Own.ext (Own.ext ho6 hx7) hx8) hx9) hx10) hx11) hg12 (Own.apart' (Own.ext ho4 hx5) ho6)) hg13 (Own.apart' ho5 ho6))) (Own.ints (Own.kept (Own.kept (Own.ext (Own.ext (Own.ext (Own.ext (Own.ext (Own.ext (Own.ext (Own.ext ho3 hx4) hx5) hx6) hx7) hx8) hx9) hx10) hx11) hg12 (Own.apart ho3 ho4)) hg13 (Own.apart (Own.ext ho3 hx4) ho5)))).mono ?_; rintro e w14 ⟨b14, rfl, hb14, hx14⟩; obtain rfl := hb14.2 rfl; clear hb14))
    have tok : True := trivial
    go_wp2_with (first | (go_at_call 26; clear tok; refine (markIntS_q (hitI l0 l1) 1 _ _ (Own.ext (Own.kept (Own.kept (Own.ext (Own.ext (Own.ext (Own.ext (Own.ext ho6 hx7) hx8) hx9) hx10) hx11) hg12 (Own.apart' (Own.ext ho4 hx5) ho6)) hg13 (Own.apart' ho5 ho6)) hx14) (by omega) (by omega)).mono ?_; rintro e w15 ⟨q15, rfl, hq15, hl15, hm15, hg15⟩))
    have tok : True := trivial
    go_wp2_with (first | (go_at_call 27; clear tok; refine (heldIntS_q ((hitI l0 l1)).length 1 _ _ (Own.ints hm15) (by omega) (by omega)).mono ?_; rintro e wq ⟨q16, rfl, hq16, hl16, rfl⟩; obtain rfl : q15 = q16 := hq15.out.trans hq16.out.symm))
    have tok : True := trivial
    go_wp2_with (first | (go_at_call 19; clear tok; have hz : (l0 : List Int).length ≤ 1099511627776 := (by omega); refine (toIntS_c l0 _ _ (Hv0.out.ext (Ext.mark (Ext.tr (Ext.mark (Ext.mark (Ext.tr (Ext.tr (Ext.tr (Ext.tr (Ext.tr (Ext.tr (Ext.tr (Ext.tr (Ext.tr (Ext.tr (Ext.tr (Below.refl _ _) hx1) hx2) hx3) hx4) hx5) hx6) hx7) hx8) hx9) hx10) hx11) (Own.ext (Own.ext (Own.ext (Own.ext (Own.ext (Own.ext (Own.ext ho4 hx5) hx6) hx7) hx8) hx9) hx10) hx11) hg12 (Ext.tr (Ext.tr (Ext.tr (Below.refl _ _) hx1) hx2) hx3).size) (Own.kept (Own.ext (Own.ext (Own.ext (Own.ext (Own.ext (Own.ext ho5 hx6) hx7) hx8) hx9) hx10) hx11) hg12 (Own.apart' ho4 ho5)) hg13 (Ext.tr (Ext.tr (Ext.tr (Ext.tr (Below.refl _ _) hx1) hx2) hx3) hx4).size) hx14) (Own.ext (Own.kept (Own.kept (Own.ext (Own.ext (Own.ext (Own.ext (Own.ext ho6 hx7) hx8) hx9) hx10) hx11) hg12 (Own.apart' (Own.ext ho4 hx5) ho6)) hg13 (Own.apart' ho5 ho6)) hx14) hg15 (Ext.tr (Ext.tr (Ext.tr (Ext.tr (Ext.tr (Below.refl _ _) hx1) hx2) hx3) hx4) hx5).size)) hz).mono ?_; clear hz; rintro e w16 ⟨v17, rfl, ho17, hx17⟩))
    have tok : True := trivial
    go_wp2_with (first | (go_at_call 19; clear tok; have hz : (l1 : List Int).length ≤ 1099511627776 := (by omega); refine (toIntS_c l1 _ _ (Hv1.out.ext (Ext.tr (Ext.mark (Ext.tr (Ext.mark (Ext.mark (Ext.tr (Ext.tr (Ext.tr (Ext.tr (Ext.tr (Ext.tr (Ext.tr (Ext.tr (Ext.tr (Ext.tr (Ext.tr (Below.refl _ _) hx1) hx2) hx3) hx4) hx5) hx6) hx7) hx8) hx9) hx10) hx11) (Own.ext (Own.ext (Own.ext (Own.ext (Own.ext (Own.ext (Own.ext ho4 hx5) hx6) hx7) hx8) hx9) hx10) hx11) hg12 (Ext.tr (Ext.tr (Ext.tr (Below.refl _ _) hx1) hx2) hx3).size) (Own.kept (Own.ext (Own.ext (Own.ext (Own.ext (Own.ext (Own.ext ho5 hx6) hx7) hx8) hx9) hx10) hx11) hg12 (Own.apart' ho4 ho5)) hg13 (Ext.tr (Ext.tr (Ext.tr (Ext.tr (Below.refl _ _) hx1) hx2) hx3) hx4).size) hx14) (Own.ext (Own.kept (Own.kept (Own.ext (Own.ext (Own.ext (Own.ext (Own.ext ho6 hx7) hx8) hx9) hx10) hx11) hg12 (Own.apart' (Own.ext ho4 hx5) ho6)) hg13 (Own.apart' ho5 ho6)) hx14) hg15 (Ext.tr (Ext.tr (Ext.tr (Ext.tr (Ext.tr (Below.refl _ _) hx1) hx2) hx3) hx4) hx5).size) hx17)) hz).mono ?_; clear hz; rintro e w17 ⟨v18, rfl, ho18, hx18⟩))
    have tok : True := trivial
    go_wp2_with (first | (go_at_call 37; clear tok; refine (hitsOf_c l0 l1 _ _ _ (Own.ints (Own.ext ho17 hx18)) (Own.ints ho18)).mono ?_; rintro e w18 ⟨v19, rfl, ho19, hx19⟩))
    have tok : True := trivial
    go_wp2_with (first | (go_at_call 21; clear tok; refine (eqIntS_c (hitI l0 l1) (hitI l0 l1) _ _ _ (Own.ints ho19) (Own.ints (Own.ext (Own.ext (Own.ext (Own.kept (Own.ext (Own.kept (Own.kept (Own.ext (Own.ext (Own.ext (Own.ext (Own.ext (Own.ext (Own.ext (Own.ext ho3 hx4) hx5) hx6) hx7) hx8) hx9) hx10) hx11) hg12 (Own.apart ho3 ho4)) hg13 (Own.apart (Own.ext ho3 hx4) ho5)) hx14) hg15 (Own.apart (Own.ext (Own.ext ho3 hx4) hx5) ho6)) hx17) hx18) hx19))).mono ?_; rintro e w19 ⟨b20, rfl, hb20, hx20⟩; obtain rfl := hb20.2 rfl; clear hb20))
    have tok : True := trivial
    go_wp2_with (first | (go_at_call 27; clear tok; refine (heldIntS_q ((hitI l0 l1)).length 1 _ _ (Own.ints (Own.ext (Own.ext (Own.ext (Own.ext hm15 hx17) hx18) hx19) hx20)) (by omega) (by omega)).mono ?_; rintro e wq ⟨q21, rfl, hq21, hl21, rfl⟩; obtain rfl : q15 = q21 := hq15.out.trans hq21.out.symm))
    go_ret
    exact ⟨rfl, (Ext.tr (Ext.tr (Ext.tr (Ext.tr (Ext.mark (Ext.tr (Ext.mark (Ext.mark (Ext.tr (Ext.tr (Ext.tr (Ext.tr (Ext.tr (Ext.tr (Ext.tr (Ext.tr (Ext.tr (Ext.tr (Ext.tr (Below.refl _ _) hx1) hx2) hx3) hx4) hx5) hx6) hx7) hx8) hx9) hx10) hx11) (Own.ext (Own.ext (Own.ext (Own.ext (Own.ext (Own.ext (Own.ext ho4 hx5) hx6) hx7) hx8) hx9) hx10) hx11) hg12 (Ext.tr (Ext.tr (Ext.tr (Below.refl _ _) hx1) hx2) hx3).size) (Own.kept (Own.ext (Own.ext (Own.ext (Own.ext (Own.ext (Own.ext ho5 hx6) hx7) hx8) hx9) hx10) hx11) hg12 (Own.apart' ho4 ho5)) hg13 (Ext.tr (Ext.tr (Ext.tr (Ext.tr (Below.refl _ _) hx1) hx2) hx3) hx4).size) hx14) (Own.ext (Own.kept (Own.kept (Own.ext (Own.ext (Own.ext (Own.ext (Own.ext ho6 hx7) hx8) hx9) hx10) hx11) hg12 (Own.apart' (Own.ext ho4 hx5) ho6)) hg13 (Own.apart' ho5 ho6)) hx14) hg15 (Ext.tr (Ext.tr (Ext.tr (Ext.tr (Ext.tr (Below.refl _ _) hx1) hx2) hx3) hx4) hx5).size) hx17) hx18) hx19) hx20)⟩

namespace fnExactHitsOfGlue
set_option maxRecDepth 100000 in
theorem lifted (os : Os) (started : os.Started) (H : Type) (enc : TypeId × Value → H) :
    ReturnsInHanded {} Try.checked os 12 .any (Rows.fnExactHitsOfSpec.pre6 enc Try.prog Try.f12 Rows.fnExactHitsOfRow.domain false) (Rows.fnExactHitsOfSpec.post enc Try.prog Try.f12 false true false false) := by
  refine returnsInHanded_of_change (C := Try.checked) own started (by kernel_rfl) Try.func12
    (ChangeSpec.witness6 (enc := enc) (C := Try.checked) false ⟨#[], #[.slice none 0 0, .slice none 0 0], []⟩ 8 (by kernel_rfl) (by kernel_rfl) (by kernel_rfl) (by kernel_rfl)) ?_
  intro W base args ds gs before hval0 hW hcnd _
  have hval : ∀ (j : Nat) t v, Try.f12.params[j]? = some t → args[j]? = some v → Value.okWide Try.prog W .any base t v := hval0
  have hW' := hW
  obtain ⟨p, q, hA0, hV, rfl, hfz, hnd⟩ := hW
  have hA : DataW.TrodAll enc Try.prog W 0 (fun _ => true) true Try.f12.params.toList args.toList ds p := hA0
  rw [Try.params12] at hA hval
  obtain ⟨v0, vs0, d0, ds0, p0, q0, hargs, rfl, rfl, h0, r0⟩ := trodAll_cons hA
  obtain ⟨v1, vs1, d1, ds1, p1, q1, rfl, rfl, rfl, h1, r1⟩ := trodAll_cons r0
  obtain ⟨rfl, rfl, rfl⟩ := trodAll_nil r1
  obtain rfl : args = #[v0, v1] := by cases args; simp_all
  obtain ⟨rfl, rfl⟩ := trodVars_none hV
  have k0 := h0
  have lt0 : ∀ x ∈ p0, x.block < W.heap.size := by obtain ⟨m, hm⟩ := k0; exact DataW.trod_lt m _ _ _ hm
  obtain ⟨l0, w0⟩ := ints_in (hval 0 24 v0 rfl rfl) h0
  have k1 := h1
  have lt1 : ∀ x ∈ p1, x.block < W.heap.size := by obtain ⟨m, hm⟩ := k1; exact DataW.trod_lt m _ _ _ hm
  obtain ⟨l1, w1⟩ := ints_in (hval 1 24 v1 rfl rfl) h1
  clear hA0 hval0
  refine (lawHitsOf_c l0 v0 l1 v1 W w0 w1).mono fun e W' ⟨he, bel⟩ => ?_
  subst he
  exact ⟨_, rfl, _, _, _, [], _, [], hW', trodAll_mk1 (shut_bool Try.underlying4 _), (trodAll_cons_mk (Below.trod laidOut (by kernel_rfl) (of_decide_eq_true (by kernel_rfl)) k0 bel lt0) (trodAll_cons_mk (Below.trod laidOut (by kernel_rfl) (of_decide_eq_true (by kernel_rfl)) k1 bel lt1) trodAll_mk0)), rfl, bel.frame _, fun h => by cases h⟩
theorem over : Rows.fnExactHitsOfRow.holds Try.pinned (OpenSpec.ofChange Rows.fnExactHitsOfSpec) :=
  OpenClaim.holds_of_wide 12 Try.f12 rfl rfl rfl rfl rfl rfl rfl ⟨rfl, rfl, rfl, rfl, rfl⟩ rfl rfl rfl rfl rfl (by kernel_rfl) Try.func12 (by kernel_rfl)
    (of_decide_eq_true (by kernel_rfl)) (by unfold Func.isWrapper; first | (rw [if_pos (by decide +kernel)]; kernel_rfl) | (rw [if_neg (by decide +kernel)]; exact ⟨rfl, rfl⟩))
    (fun os started H enc _ => lifted os started H enc)
end fnExactHitsOfGlue
/-- THE STATEMENT. -/
theorem fnExactHitsOf_holds : Rows.FnExactHitsOfSaid := fnExactHitsOfGlue.over
#print axioms fnExactHitsOf_holds
end Go.Proofs.Ytiiikagpfgeabaa
