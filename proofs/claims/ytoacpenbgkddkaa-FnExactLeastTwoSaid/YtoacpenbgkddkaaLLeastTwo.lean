/- For every slice of ints the law FnExactLeastTwo returns true: the program's LeastTwo returns what the reference's returns, and leaves its argument. Conditions: none beyond the row's own. -/
import Derived.Test.YtoacpenbgkddkaaFltw
import Derived.Test.YtoacpenbgkddkaaLaw
import Derived.Test.YtoacpenbgkddkaaGlue
namespace Go.Proofs.Ytoacpenbgkddkaa
open Go.ChangeShapes Go.WideShapes Go.ChangeAt Go.RowKit
set_option maxHeartbeats 2000000 in
theorem lawLeastTwo_c (l0 : List Int) (v'0 : Value) (w : World) (hv0 : Ints w v'0 l0) : Calls Try.prog 12 #[v'0] w fun e w' => e = .returned (.bool true) ∧ Ext w w' := by
  obtain ⟨A0, c0, hve0, hlc0, hcm0, hcell0⟩ := id hv0
  subst hve0
  have Hv0 := Lib.hid hv0
  clear hv0 hcell0
  by_cases hle0 : l0.length ≤ 1048576
  rotate_left
  · go_enter Try.func12, Try.ntmps12
    go_wp2
    go_ret
    exact ⟨rfl, Below.refl _ _⟩
  · go_enter Try.func12, Try.ntmps12
    have tok : True := trivial
    go_wp2_with (first | (go_at_call 15; clear tok; have hz : (l0 : List Int).length ≤ 1099511627776 := (by omega); refine (toIntS_c l0 _ _ (Hv0.out.ext (Below.refl _ _)) hz).mono ?_; clear hz; rintro e w1 ⟨v1, rfl, ho1, hx1⟩))
    have tok : True := trivial
    go_wp2_with (first | (go_at_call 36; clear tok; refine (specLeastTwo_c l0 _ _ (Own.ints ho1)).mono ?_; rintro e w2 ⟨rfl, hx2⟩))
    have tok : True := trivial
    go_wp2_with (first | (go_at_call 15; clear tok; have hz : (l0 : List Int).length ≤ 1099511627776 := (by omega); refine (toIntS_c l0 _ _ (Hv0.out.ext (Ext.tr (Ext.tr (Below.refl _ _) hx1) hx2)) hz).mono ?_; clear hz; rintro e w3 ⟨v3, rfl, ho3, hx3⟩))
    have tok : True := trivial
    go_wp2_with (first | (go_at_call 37; clear tok; refine (leastTwo_c l0 _ _ (Own.ints ho3)).mono ?_; rintro e w4 ⟨rfl, hx4⟩))
    have tok : True := trivial
    go_wp2_with (first | (go_at_call 15; clear tok; have hz : (l0 : List Int).length ≤ 1099511627776 := (by omega); refine (toIntS_c l0 _ _ (Hv0.out.ext (Ext.tr (Ext.tr (Ext.tr (Ext.tr (Below.refl _ _) hx1) hx2) hx3) hx4)) hz).mono ?_; clear hz; rintro e w5 ⟨v5, rfl, ho5, hx5⟩))
    have tok : True := trivial
    go_wp2_with (first | (go_at_call 17; clear tok; refine (eqIntS_c l0 l0 _ _ _ (Own.ints (Own.ext (Own.ext ho3 hx4) hx5)) (Own.ints ho5)).mono ?_; rintro e w6 ⟨b6, rfl, hb6, hx6⟩; obtain rfl := hb6.2 rfl; clear hb6))
    go_ret
    exact ⟨rfl, (Ext.tr (Ext.tr (Ext.tr (Ext.tr (Ext.tr (Ext.tr (Below.refl _ _) hx1) hx2) hx3) hx4) hx5) hx6)⟩

namespace fnExactLeastTwoGlue
set_option maxRecDepth 100000 in
theorem lifted (os : Os) (started : os.Started) (H : Type) (enc : TypeId × Value → H) :
    ReturnsInHanded {} Try.checked os 12 .any (Rows.fnExactLeastTwoSpec.pre6 enc Try.prog Try.f12 Rows.fnExactLeastTwoRow.domain false) (Rows.fnExactLeastTwoSpec.post enc Try.prog Try.f12 false true false false) := by
  refine returnsInHanded_of_change (C := Try.checked) own started (by kernel_rfl) Try.func12
    (ChangeSpec.witness6 (enc := enc) (C := Try.checked) false ⟨#[], #[.slice none 0 0], []⟩ 8 (by kernel_rfl) (by kernel_rfl) (by kernel_rfl) (by kernel_rfl)) ?_
  intro W base args ds gs before hval0 hW hcnd _
  have hval : ∀ (j : Nat) t v, Try.f12.params[j]? = some t → args[j]? = some v → Value.okWide Try.prog W .any base t v := hval0
  have hW' := hW
  obtain ⟨p, q, hA0, hV, rfl, hfz, hnd⟩ := hW
  have hA : DataW.TrodAll enc Try.prog W 0 (fun _ => true) true Try.f12.params.toList args.toList ds p := hA0
  rw [Try.params12] at hA hval
  obtain ⟨v0, vs0, d0, ds0, p0, q0, hargs, rfl, rfl, h0, r0⟩ := trodAll_cons hA
  obtain ⟨rfl, rfl, rfl⟩ := trodAll_nil r0
  obtain rfl : args = #[v0] := by cases args; simp_all
  obtain ⟨rfl, rfl⟩ := trodVars_none hV
  have k0 := h0
  have lt0 : ∀ x ∈ p0, x.block < W.heap.size := by obtain ⟨m, hm⟩ := k0; exact DataW.trod_lt m _ _ _ hm
  obtain ⟨l0, w0⟩ := ints_in (hval 0 22 v0 rfl rfl) h0
  clear hA0 hval0
  refine (lawLeastTwo_c l0 v0 W w0).mono fun e W' ⟨he, bel⟩ => ?_
  subst he
  exact ⟨_, rfl, _, _, _, [], _, [], hW', trodAll_mk1 (shut_bool Try.underlying4 _), (trodAll_cons_mk (Below.trod laidOut (by kernel_rfl) (of_decide_eq_true (by kernel_rfl)) k0 bel lt0) trodAll_mk0), rfl, bel.frame _, fun h => by cases h⟩
theorem over : Rows.fnExactLeastTwoRow.holds Try.pinned (OpenSpec.ofChange Rows.fnExactLeastTwoSpec) :=
  OpenClaim.holds_of_wide 12 Try.f12 rfl rfl rfl rfl rfl rfl rfl ⟨rfl, rfl, rfl, rfl, rfl⟩ rfl rfl rfl rfl rfl (by kernel_rfl) Try.func12 (by kernel_rfl)
    (of_decide_eq_true (by kernel_rfl)) (by unfold Func.isWrapper; first | (rw [if_pos (by decide +kernel)]; kernel_rfl) | (rw [if_neg (by decide +kernel)]; exact ⟨rfl, rfl⟩))
    (fun os started H enc _ => lifted os started H enc)
end fnExactLeastTwoGlue
/-- THE STATEMENT. -/
theorem fnExactLeastTwo_holds : Rows.FnExactLeastTwoSaid := fnExactLeastTwoGlue.over
#print axioms fnExactLeastTwo_holds
end Go.Proofs.Ytoacpenbgkddkaa
