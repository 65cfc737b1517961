/- For every slice of ints and every count the law FnExactEntriesTwo returns true: the program's EntriesTwo returns what the reference's returns, in new memory, and leaves its argument. Conditions: none beyond the row's own. -/
import Derived.Test.YtoacpenbgkddkaaFetw
import Derived.Test.YtoacpenbgkddkaaLaw
import Derived.Test.YtoacpenbgkddkaaGlue
namespace Go.Proofs.Ytoacpenbgkddkaa
open Go.ChangeShapes Go.WideShapes Go.ChangeAt Go.RowKit
attribute [local irreducible] etwL etwOk
set_option maxHeartbeats 2000000 in
theorem lawEntriesTwo_c (l0 : List Int) (v'0 : Value) (a1 : Int) (w : World) (hv0 : Ints w v'0 l0) (_ : I64 a1) : Calls Try.prog 11 #[v'0, .int .i64 a1] w fun e w' => e = .returned (.bool true) ∧ Ext w w' := by
  obtain ⟨A0, c0, hve0, hlc0, hcm0, hcell0⟩ := id hv0
  subst hve0
  have Hv0 := Lib.hid hv0
  clear hv0 hcell0
  by_cases hle0 : l0.length ≤ 1048576
  rotate_left
  · go_enter Try.func11, Try.ntmps11
    go_wp2
    go_ret
    exact ⟨rfl, Below.refl _ _⟩
  have hF := etwL_len l0 a1
  have hFB : ((etwOk l0 a1) != (etwOk l0 a1)) = false := by simp
  · go_enter Try.func11, Try.ntmps11
    have tok : True := trivial
    go_wp2_with (first | (go_at_call 15; clear tok; have hz : (l0 : List Int).length ≤ 1099511627776 := (by omega); refine (toIntS_c l0 _ _ (Hv0.out.ext (Below.refl _ _)) hz).mono ?_; clear hz; rintro e w1 ⟨v1, rfl, ho1, hx1⟩))
    have tok : True := trivial
    go_wp2_with (first | (go_at_call 34; clear tok; refine (specEntriesTwo_c l0 a1 _ _ (Own.ints ho1)).mono ?_; rintro e w2 ⟨v2, rfl, ho2, hx2⟩))
    have tok : True := trivial
    go_wp2_with (first | (go_at_call 15; clear tok; have hz : (l0 : List Int).length ≤ 1099511627776 := (by omega); refine (toIntS_c l0 _ _ (Hv0.out.ext (Ext.tr (Ext.tr (Below.refl _ _) hx1) hx2)) hz).mono ?_; clear hz; rintro e w3 ⟨v3, rfl, ho3, hx3⟩))
    have tok : True := trivial
    go_wp2_with (first | (go_at_call 35; clear tok; refine (entriesTwo_c l0 a1 _ _ (Own.ints ho3)).mono ?_; rintro e w4 ⟨v4, rfl, ho4, hx4⟩))
    have tok : True := trivial
    go_wp2_with (first | (go_at_call 17; clear tok; refine (eqIntS_c (etwL l0 a1) (etwL l0 a1) _ _ _ (Own.ints ho4) (Own.ints (Own.ext (Own.ext ho2 hx3) hx4))).mono ?_; rintro e w5 ⟨b5, rfl, hb5, hx5⟩; obtain rfl := hb5.2 rfl; clear hb5))
    have tok : True := trivial
    go_wp2_with (first | (go_at_call 15; clear tok; have hz : (l0 : List Int).length ≤ 1099511627776 := (by omega); refine (toIntS_c l0 _ _ (Hv0.out.ext (Ext.tr (Ext.tr (Ext.tr (Ext.tr (Ext.tr (Below.refl _ _) hx1) hx2) hx3) hx4) hx5)) hz).mono ?_; clear hz; rintro e w6 ⟨v6, rfl, ho6, hx6⟩))
    have tok : True := trivial
    go_wp2_with (first | (go_at_call 17; clear tok; refine (eqIntS_c l0 l0 _ _ _ (Own.ints (Own.ext (Own.ext (Own.ext ho3 hx4) hx5) hx6)) (Own.ints ho6)).mono ?_; rintro e w7 ⟨b7, rfl, hb7, hx7⟩; obtain rfl := hb7.2 rfl; clear hb7))
    have tok : True := trivial
    go_wp2_with (first | (go_at_call 18; clear tok; refine (markIntS_q l0 1 _ _ (Own.ext (Own.ext (Own.ext (Own.ext ho3 hx4) hx5) hx6) hx7) (by omega) (by omega)).mono ?_; rintro e w8 ⟨q8, rfl, hq8, hl8, hm8, hg8⟩))
    have tok : True := trivial
    go_wp2_with (first | (go_at_call 17; clear tok; refine (eqIntS_c (etwL l0 a1) (etwL l0 a1) _ _ _ (Own.ints (Own.kept (Own.ext (Own.ext (Own.ext ho4 hx5) hx6) hx7) hg8 (Own.apart' ho3 ho4))) (Own.ints (Own.kept (Own.ext (Own.ext (Own.ext (Own.ext (Own.ext ho2 hx3) hx4) hx5) hx6) hx7) hg8 (Own.apart ho2 ho3)))).mono ?_; rintro e w9 ⟨b9, rfl, hb9, hx9⟩; obtain rfl := hb9.2 rfl; clear hb9))
    have tok : True := trivial
    go_wp2_with (first | (go_at_call 18; clear tok; refine (markIntS_q (etwL l0 a1) 1 _ _ (Own.ext (Own.kept (Own.ext (Own.ext (Own.ext ho4 hx5) hx6) hx7) hg8 (Own.apart' ho3 ho4)) hx9) (by omega) (by omega)).mono ?_; rintro e w10 ⟨q10, rfl, hq10, hl10, hm10, hg10⟩))
    have tok : True := trivial
    go_wp2_with (first | (go_at_call 19; clear tok; refine (heldIntS_q ((etwL l0 a1)).length 1 _ _ (Own.ints hm10) (by omega) (by omega)).mono ?_; rintro e wq ⟨q11, rfl, hq11, hl11, rfl⟩; obtain rfl : q10 = q11 := hq10.out.trans hq11.out.symm))
    have tok : True := trivial
    go_wp2_with (first | (go_at_call 15; clear tok; have hz : (l0 : List Int).length ≤ 1099511627776 := (by omega); refine (toIntS_c l0 _ _ (Hv0.out.ext (Ext.mark (Ext.tr (Ext.mark (Ext.tr (Ext.tr (Ext.tr (Ext.tr (Ext.tr (Ext.tr (Ext.tr (Below.refl _ _) hx1) hx2) hx3) hx4) hx5) hx6) hx7) (Own.ext (Own.ext (Own.ext (Own.ext ho3 hx4) hx5) hx6) hx7) hg8 (Ext.tr (Ext.tr (Below.refl _ _) hx1) hx2).size) hx9) (Own.ext (Own.kept (Own.ext (Own.ext (Own.ext ho4 hx5) hx6) hx7) hg8 (Own.apart' ho3 ho4)) hx9) hg10 (Ext.tr (Ext.tr (Ext.tr (Below.refl _ _) hx1) hx2) hx3).size)) hz).mono ?_; clear hz; rintro e w11 ⟨v12, rfl, ho12, hx12⟩))
    have tok : True := trivial
    go_wp2_with (first | (go_at_call 35; clear tok; refine (entriesTwo_c l0 a1 _ _ (Own.ints ho12)).mono ?_; rintro e w12 ⟨v13, rfl, ho13, hx13⟩))
    have tok : True := trivial
    go_wp2_with (first | (go_at_call 17; clear tok; refine (eqIntS_c (etwL l0 a1) (etwL l0 a1) _ _ _ (Own.ints ho13) (Own.ints (Own.ext (Own.ext (Own.kept (Own.ext (Own.kept (Own.ext (Own.ext (Own.ext (Own.ext (Own.ext ho2 hx3) hx4) hx5) hx6) hx7) hg8 (Own.apart ho2 ho3)) hx9) hg10 (Own.apart (Own.ext ho2 hx3) ho4)) hx12) hx13))).mono ?_; rintro e w13 ⟨b14, rfl, hb14, hx14⟩; obtain rfl := hb14.2 rfl; clear hb14))
    have tok : True := trivial
    go_wp2_with (first | (go_at_call 19; clear tok; refine (heldIntS_q ((etwL l0 a1)).length 1 _ _ (Own.ints (Own.ext (Own.ext (Own.ext hm10 hx12) hx13) hx14)) (by omega) (by omega)).mono ?_; rintro e wq ⟨q15, rfl, hq15, hl15, rfl⟩; obtain rfl : q10 = q15 := hq10.out.trans hq15.out.symm))
    go_ret
    exact ⟨rfl, (Ext.tr (Ext.tr (Ext.tr (Ext.mark (Ext.tr (Ext.mark (Ext.tr (Ext.tr (Ext.tr (Ext.tr (Ext.tr (Ext.tr (Ext.tr (Below.refl _ _) hx1) hx2) hx3) hx4) hx5) hx6) hx7) (Own.ext (Own.ext (Own.ext (Own.ext ho3 hx4) hx5) hx6) hx7) hg8 (Ext.tr (Ext.tr (Below.refl _ _) hx1) hx2).size) hx9) (Own.ext (Own.kept (Own.ext (Own.ext (Own.ext ho4 hx5) hx6) hx7) hg8 (Own.apart' ho3 ho4)) hx9) hg10 (Ext.tr (Ext.tr (Ext.tr (Below.refl _ _) hx1) hx2) hx3).size) hx12) hx13) hx14)⟩

namespace fnExactEntriesTwoGlue
set_option maxRecDepth 100000 in
theorem lifted (os : Os) (started : os.Started) (H : Type) (enc : TypeId × Value → H) :
    ReturnsInHanded {} Try.checked os 11 .any (Rows.fnExactEntriesTwoSpec.pre6 enc Try.prog Try.f11 Rows.fnExactEntriesTwoRow.domain false) (Rows.fnExactEntriesTwoSpec.post enc Try.prog Try.f11 false true false false) := by
  refine returnsInHanded_of_change (C := Try.checked) own started (by kernel_rfl) Try.func11
    (ChangeSpec.witness6 (enc := enc) (C := Try.checked) false ⟨#[], #[.slice none 0 0, .int .i64 0], []⟩ 8 (by kernel_rfl) (by kernel_rfl) (by kernel_rfl) (by kernel_rfl)) ?_
  intro W base args ds gs before hval0 hW hcnd _
  have hval : ∀ (j : Nat) t v, Try.f11.params[j]? = some t → args[j]? = some v → Value.okWide Try.prog W .any base t v := hval0
  have hW' := hW
  obtain ⟨p, q, hA0, hV, rfl, hfz, hnd⟩ := hW
  have hA : DataW.TrodAll enc Try.prog W 0 (fun _ => true) true Try.f11.params.toList args.toList ds p := hA0
  rw [Try.params11] at hA hval
  obtain ⟨v0, vs0, d0, ds0, p0, q0, hargs, rfl, rfl, h0, r0⟩ := trodAll_cons hA
  obtain ⟨v1, vs1, d1, ds1, p1, q1, rfl, rfl, rfl, h1, r1⟩ := trodAll_cons r0
  obtain ⟨rfl, rfl, rfl⟩ := trodAll_nil r1
  obtain rfl : args = #[v0, v1] := by cases args; simp_all
  obtain ⟨rfl, rfl⟩ := trodVars_none hV
  have k0 := h0
  have lt0 : ∀ x ∈ p0, x.block < W.heap.size := by obtain ⟨m, hm⟩ := k0; exact DataW.trod_lt m _ _ _ hm
  obtain ⟨l0, w0⟩ := ints_in (hval 0 22 v0 rfl rfl) h0
  obtain ⟨a1, rfl, rfl, rfl, w1⟩ := open_int Try.underlying3 (hval 1 3 v1 rfl rfl) h1
  clear hA0 hval0
  refine (lawEntriesTwo_c l0 v0 a1 W w0 (I64.of_wf w1)).mono fun e W' ⟨he, bel⟩ => ?_
  subst he
  exact ⟨_, rfl, _, _, _, [], _, [], hW', trodAll_mk1 (shut_bool Try.underlying4 _), (trodAll_cons_mk (Below.trod laidOut (by kernel_rfl) (of_decide_eq_true (by kernel_rfl)) k0 bel lt0) (trodAll_cons_mk (shut_int Try.underlying3 w1) trodAll_mk0)), rfl, bel.frame _, fun h => by cases h⟩
theorem over : Rows.fnExactEntriesTwoRow.holds Try.pinned (OpenSpec.ofChange Rows.fnExactEntriesTwoSpec) :=
  OpenClaim.holds_of_wide 11 Try.f11 rfl rfl rfl rfl rfl rfl rfl ⟨rfl, rfl, rfl, rfl, rfl⟩ rfl rfl rfl rfl rfl (by kernel_rfl) Try.func11 (by kernel_rfl)
    (of_decide_eq_true (by kernel_rfl)) (by unfold Func.isWrapper; first | (rw [if_pos (by decide +kernel)]; kernel_rfl) | (rw [if_neg (by decide +kernel)]; exact ⟨rfl, rfl⟩))
    (fun os started H enc _ => lifted os started H enc)
end fnExactEntriesTwoGlue
/-- THE STATEMENT. -/
theorem fnExactEntriesTwo_holds : Rows.FnExactEntriesTwoSaid := fnExactEntriesTwoGlue.over
#print axioms fnExactEntriesTwo_holds
end Go.Proofs.Ytoacpenbgkddkaa
