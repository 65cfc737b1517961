/- For every slice of ints the law FnExactPatternOk returns true (the program's PatternOk and the reference's answer alike), and the argument reads afterwards as it did. Conditions: none beyond the row's own. -/
import Derived.Test.YtiiikagpfgeabaaFa
import Derived.Test.YtiiikagpfgeabaaLaw
import Derived.Test.YtiiikagpfgeabaaGlue
namespace Go.Proofs.Ytiiikagpfgeabaa
open Go.ChangeShapes Go.WideShapes Go.ChangeAt Go.RowKit
theorem lawPatternOk_c (l : List Int) (v : Value) (w : World) (hv : Ints w v l) : Calls Try.prog 5 #[v] w fun e w' => e = .returned (.bool true) ∧ Ext w w' := by
  obtain ⟨A, c, hve, hlc, hcm, hcell⟩ := id hv
  subst hve
  have Hv := Lib.hid hv
  clear hv hcell
  by_cases hl : l.length ≤ 1048576
  · go_enter Try.func5, Try.ntmps5
    go_wp2_with (first | (go_at_call 19; refine (toIntS_c l _ _ Hv.out (by omega)).mono ?_; rintro e w1 ⟨v1, rfl, hv1, hx1⟩))
    go_wp2_with (first | (go_at_call 18; refine (specPatternOk_c l _ _ hv1.ints).mono ?_; rintro e w1 ⟨b1, rfl, hb1, rfl⟩))
    go_wp2_with (first | (go_at_call 19; refine (toIntS_c l _ _ (Hv.out.ext hx1) (by omega)).mono ?_; rintro e w2 ⟨v2, rfl, hv2, hx2⟩))
    go_wp2_with (first | (go_at_call 20; refine (patternOk_c l _ _ hv2.ints).mono ?_; rintro e w1 ⟨b2, rfl, hb2, rfl⟩; obtain rfl := bool_eq hb2 hb1; clear hb1 hb2))
    go_wp2_with (first | (go_at_call 19; refine (toIntS_c l _ _ ((Hv.out.ext hx1).ext hx2) (by omega)).mono ?_; rintro e w3 ⟨v3, rfl, hv3, hx3⟩))
    go_wp2_with (first | (go_at_call 21; refine (eqIntS_c l l _ _ _ (hv2.ext hx3).ints hv3.ints).mono ?_; rintro e w4 ⟨b4, rfl, hb4, hx4⟩; obtain rfl := hb4.2 rfl; clear hb4))
    go_ret
    exact ⟨rfl, ((hx1.tr hx2).tr hx3).tr hx4⟩
  · go_enter Try.func5, Try.ntmps5
    go_wp2
    go_ret
    exact ⟨rfl, Below.refl _ _⟩

namespace fnExactPatternOkGlue
set_option maxRecDepth 100000 in
theorem lifted (os : Os) (started : os.Started) (H : Type) (enc : TypeId × Value → H) :
    ReturnsInHanded {} Try.checked os 5 .any (Rows.fnExactPatternOkSpec.pre6 enc Try.prog Try.f5 Rows.fnExactPatternOkRow.domain false) (Rows.fnExactPatternOkSpec.post enc Try.prog Try.f5 false true false false) := by
  refine returnsInHanded_of_change (C := Try.checked) own started (by kernel_rfl) Try.func5
    (ChangeSpec.witness6 (enc := enc) (C := Try.checked) false ⟨#[], #[.slice none 0 0], []⟩ 8 (by kernel_rfl) (by kernel_rfl) (by kernel_rfl) (by kernel_rfl)) ?_
  intro W base args ds gs before hval0 hW hcnd _
  have hval : ∀ (j : Nat) t v, Try.f5.params[j]? = some t → args[j]? = some v → Value.okWide Try.prog W .any base t v := hval0
  have hW' := hW
  obtain ⟨p, q, hA0, hV, rfl, hfz, hnd⟩ := hW
  have hA : DataW.TrodAll enc Try.prog W 0 (fun _ => true) true Try.f5.params.toList args.toList ds p := hA0
  rw [Try.params5] at hA hval
  obtain ⟨v0, vs0, d0, ds0, p0, q0, hargs, rfl, rfl, h0, r0⟩ := trodAll_cons hA
  obtain ⟨rfl, rfl, rfl⟩ := trodAll_nil r0
  obtain rfl : args = #[v0] := by cases args; simp_all
  obtain ⟨rfl, rfl⟩ := trodVars_none hV
  have k0 := h0
  have lt0 : ∀ x ∈ p0, x.block < W.heap.size := by obtain ⟨m, hm⟩ := k0; exact DataW.trod_lt m _ _ _ hm
  obtain ⟨l0, w0⟩ := ints_in (hval 0 24 v0 rfl rfl) h0
  clear hA0 hval0
  refine (lawPatternOk_c l0 v0 W w0).mono fun e W' ⟨he, bel⟩ => ?_
  subst he
  exact ⟨_, rfl, _, _, _, [], _, [], hW', trodAll_mk1 (shut_bool Try.underlying4 _), (trodAll_cons_mk (Below.trod laidOut (by kernel_rfl) (of_decide_eq_true (by kernel_rfl)) k0 bel lt0) trodAll_mk0), rfl, bel.frame _, fun h => by cases h⟩
theorem over : Rows.fnExactPatternOkRow.holds Try.pinned (OpenSpec.ofChange Rows.fnExactPatternOkSpec) :=
  OpenClaim.holds_of_wide 5 Try.f5 rfl rfl rfl rfl rfl rfl rfl ⟨rfl, rfl, rfl, rfl, rfl⟩ rfl rfl rfl rfl rfl (by kernel_rfl) Try.func5 (by kernel_rfl)
    (of_decide_eq_true (by kernel_rfl)) (by unfold Func.isWrapper; first | (rw [if_pos (by decide +kernel)]; kernel_rfl) | (rw [if_neg (by decide +kernel)]; exact ⟨rfl, rfl⟩))
    (fun os started H enc _ => lifted os started H enc)
end fnExactPatternOkGlue
/-- THE STATEMENT. -/
theorem fnExactPatternOk_holds : Rows.FnExactPatternOkSaid := fnExactPatternOkGlue.over
#print axioms fnExactPatternOk_holds
end Go.Proofs.Ytiiikagpfgeabaa
