/- For every slice of ints the law FnExactLeastCover returns true: the program's LeastCover returns what the reference's returns, and leaves its argument. Conditions: none beyond the row's own; the tables of math/bits are tied to the program's text. -/
import Derived.Test.YtjenhnmfbphbnaaDoorFcd
import Derived.Test.YtjenhnmfbphbnaaDoorLaw
import Derived.Test.YtjenhnmfbphbnaaDoorGlueK
namespace Go.Proofs.YtjenhnmfbphbnaaDoor
open Go.ChangeShapes Go.WideShapes Go.ChangeAt Go.RowKit
attribute [local irreducible] leastC
set_option maxHeartbeats 4000000 in
theorem lawLeastCover_c (l0 : List Int) (v'0 : Value) (w : World) (hv0 : Ints w v'0 l0) (ht : TabAt 1 Lib.deBruijn64tab w) : Calls Tryd.prog 4 #[v'0] w fun e w' => e = .returned (.bool true) ∧ Ext w w' := by
  have HT := Lib.hid ht
  clear ht
  obtain ⟨A'0, c'0, hve0, hlc0, hcm0, hcell0⟩ := id hv0
  subst hve0
  have Hv0 := Lib.hid hv0
  clear hv0 hcell0
  by_cases hle0 : l0.length ≤ 1048576
  rotate_left
  · go_enter Tryd.func4, Tryd.ntmps4
    go_wp2
    go_ret
    exact ⟨rfl, (Below.refl w.heap.size w)⟩
  go_enter Tryd.func4, Tryd.ntmps4
  have tok : True := trivial
  go_wp2_with (first | (go_at_call 11; clear tok; have hz : (l0 : List Int).length ≤ 1099511627776 := (by omega); refine (toIntS_c l0 _ _ (Hv0.out.ext (Below.refl w.heap.size w)) hz).mono ?_; clear hz; rintro e w1 ⟨v1, rfl, ho1, hx1⟩; obtain ⟨A1, m1, c1, rfl⟩ := ho1.form))
  have tok : True := trivial
  go_wp2_with (first | (go_at_call 14; clear tok; refine (specLeastCover_c l0 _ _ (Own.ints ho1)).mono ?_; rintro e w2 ⟨rfl, hx2⟩))
  have X1 := Lib.hid (Ext.tr (Below.refl w.heap.size w) hx1)
  have X2 := Lib.hid (Ext.tr X1.out hx2)
  have tok : True := trivial
  go_wp2_with (first | (go_at_call 11; clear tok; have hz : (l0 : List Int).length ≤ 1099511627776 := (by omega); refine (toIntS_c l0 _ _ (Hv0.out.ext X2.out) hz).mono ?_; clear hz; rintro e w3 ⟨v3, rfl, ho3, hx3⟩; obtain ⟨A3, m3, c3, rfl⟩ := ho3.form))
  have X3 := Lib.hid (Ext.tr X2.out hx3)
  have tok : True := trivial
  go_wp2_with (first | (go_at_call 15; clear tok; refine (leastCover_c l0 _ _ (Own.ints ho3) (TabAt.ext HT.out X3.out)).mono ?_; rintro e w4 ⟨rfl, hx4⟩))
  have X4 := Lib.hid (Ext.tr X3.out hx4)
  have tok : True := trivial
  go_wp2_with (first | (go_at_call 11; clear tok; have hz : (l0 : List Int).length ≤ 1099511627776 := (by omega); refine (toIntS_c l0 _ _ (Hv0.out.ext X4.out) hz).mono ?_; clear hz; rintro e w5 ⟨v5, rfl, ho5, hx5⟩; obtain ⟨A5, m5, c5, rfl⟩ := ho5.form))
  have K0_4 := Lib.hid (Own.ext ho3 hx4)
  have K0_5 := Lib.hid (Own.ext K0_4.out hx5)
  have tok : True := trivial
  go_wp2_with (first | (go_at_call 13; clear tok; refine (eqIntS_c l0 l0 _ _ _ (Own.ints K0_5.out) (Own.ints ho5)).mono ?_; rintro e w6 ⟨b6, rfl, hb6, hx6⟩; obtain rfl := hb6.2 rfl; clear hb6))
  go_ret
  have X5 := Lib.hid (Ext.tr X4.out hx5)
  have X6 := Lib.hid (Ext.tr X5.out hx6)
  exact ⟨rfl, X6.out⟩

namespace fnExactLeastCoverGlue
set_option maxRecDepth 100000 in
theorem lifted (os : Os) (started : os.Started) (H : Type) (enc : TypeId × Value → H) :
    ReturnsInHanded {} Tryd.checked os 4 .any (fun w args => (Rows.fnExactLeastCoverSpec.pre enc Tryd.prog Tryd.f4 [] false w args ∧ laidMetH Tryd.prog laidD w) ∧ sizedMet enc Tryd.prog Tryd.f4 (OpenSpec.ofChange Rows.fnExactLeastCoverSpec) false w args) (Rows.fnExactLeastCoverSpec.post enc Tryd.prog Tryd.f4 false true false false) := by
  refine returnsInHanded_of_change_and (C := Tryd.checked) (X := fun w _ => laidMetH Tryd.prog laidD w) (fun _ _ _ hh h => h.of_heap hh) own started (by kernel_rfl) Tryd.func4
    (ChangeSpec.witness_shaped (enc := enc) (C := Tryd.checked) (os := os) (X := fun w _ => laidMetH Tryd.prog laidD w) false (World.doorLaid Tryd.prog 400 os) #[.slice none 0 0] 8 rfl (World.shaped_of_RefB (by kernel_rfl) (by kernel_rfl)) (by kernel_rfl) (by kernel_rfl) (by kernel_rfl) (door_met os _)) ?_
  intro W base args ds gs before hval0 hW _ _ hL _
  have hval : ∀ (j : Nat) t v, Tryd.f4.params[j]? = some t → args[j]? = some v → Value.okWide Tryd.prog W .any base t v := hval0
  have hW' := hW
  obtain ⟨p, q, hA0, hV, rfl, hfz, hnd⟩ := hW
  have hA : DataW.TrodAll enc Tryd.prog W 0 (fun _ => true) true Tryd.f4.params.toList args.toList ds p := hA0
  rw [Tryd.params4] at hA hval
  obtain ⟨v0, vs0, d0, ds0, p0, q0, hargs, rfl, rfl, h0, r0⟩ := trodAll_cons hA
  obtain ⟨rfl, rfl, rfl⟩ := trodAll_nil r0
  obtain rfl : args = #[v0] := by cases args; simp_all
  obtain ⟨rfl, rfl⟩ := trodVars_none hV
  have k0 := h0
  have lt0 : ∀ x ∈ p0, x.block < W.heap.size := by obtain ⟨m, hm⟩ := k0; exact DataW.trod_lt m _ _ _ hm
  obtain ⟨l0, w0⟩ := ints_in (hval 0 22 v0 rfl rfl) h0
  clear hA0 hval0
  refine (lawLeastCover_c l0 v0 W w0 (tab_of hL)).mono fun e W' ⟨he, bel⟩ => ?_
  subst he
  exact ⟨_, rfl, _, _, _, [], _, [], hW', trodAll_mk1 (shut_bool Tryd.underlying4 _), (trodAll_cons_mk (Below.trod laidOut (by kernel_rfl) (of_decide_eq_true (by kernel_rfl)) k0 bel lt0) trodAll_mk0), rfl, bel.frame _, fun h => by cases h⟩
theorem over : Rows.fnExactLeastCoverRow.holds Tryd.pinned (OpenSpec.ofChange Rows.fnExactLeastCoverSpec) :=
  OpenClaim.holds_of_wide 4 Tryd.f4 rfl rfl rfl rfl rfl rfl rfl ⟨rfl, rfl, rfl, rfl, rfl⟩ rfl rfl rfl rfl rfl (by kernel_rfl) Tryd.func4 (by kernel_rfl)
    (of_decide_eq_true (by kernel_rfl)) (by unfold Func.isWrapper; first | (rw [if_pos (by decide +kernel)]; kernel_rfl) | (rw [if_neg (by decide +kernel)]; exact ⟨rfl, rfl⟩))
    (fun os started H enc _ => lifted os started H enc)
end fnExactLeastCoverGlue
theorem fnExactLeastCover_row : Rows.FnExactLeastCoverSaid := fnExactLeastCoverGlue.over
/-- THE STATEMENT: the tied card. -/
theorem fnExactLeastCover_holds : Rows.FnExactLeastCoverCardSaid :=
  Claim7.holds_tied_plain_at .later [] [.data, .data] true (true, "3abe9f833a8b8edb0d05945cb33223a3fcc9d5363a0a962ac53fb35b646198e0") false
    fnExactLeastCover_row (fun _ h => by cases h) (by kernel_rfl) (fun _ h => by cases h) fnExactLeastCover_row_tie rfl ⟨rfl, rfl⟩ (by kernel_rfl) rfl
    (fun f fn hf hfn => by
      obtain rfl : f = 4 := Option.some.inj ((show Tryd.prog.funcNamed "loop.example/g03204/laws.FnExactLeastCover" = some 4 by kernel_rfl).symm.trans hf) |>.symm
      obtain rfl : fn = Tryd.f4 := (Option.some.inj (Tryd.func4.symm.trans hfn)).symm
      exact ⟨by kernel_rfl, fun j t ht => by
        rw [Tryd.params4] at ht
        have hm : t ∈ [22] := by simpa using Array.mem_of_getElem? ht
        have hall : ([22].all fun u => !Tryd.prog.wantsStandIn u) = true := by kernel_rfl
        exact (show Tryd.prog.wantsStandIn t = false by simpa using List.all_eq_true.1 hall t hm)⟩)
    (by kernel_rfl)
#print axioms fnExactLeastCover_holds
end Go.Proofs.YtjenhnmfbphbnaaDoor
