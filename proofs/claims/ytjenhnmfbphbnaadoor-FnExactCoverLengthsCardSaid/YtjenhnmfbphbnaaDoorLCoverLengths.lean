/- For every slice of ints the law FnExactCoverLengths returns true: the program's CoverLengths returns what the reference's returns, and leaves its argument. Conditions: none beyond the row's own; the tables of math/bits are tied to the program's text. -/
import Derived.Test.YtjenhnmfbphbnaaDoorFcd
import Derived.Test.YtjenhnmfbphbnaaDoorLaw
import Derived.Test.YtjenhnmfbphbnaaDoorGlueK
namespace Go.Proofs.YtjenhnmfbphbnaaDoor
open Go.ChangeShapes Go.WideShapes Go.ChangeAt Go.RowKit
attribute [local irreducible] lenC
set_option maxHeartbeats 4000000 in
theorem lawCoverLengths_c (l0 : List Int) (v'0 : Value) (w : World) (hv0 : Ints w v'0 l0) (ht : TabAt 1 Lib.deBruijn64tab w) : Calls Tryd.prog 6 #[v'0] w fun e w' => e = .returned (.bool true) ∧ Ext w w' := by
  have HT := Lib.hid ht
  clear ht
  obtain ⟨A'0, c'0, hve0, hlc0, hcm0, hcell0⟩ := id hv0
  subst hve0
  have Hv0 := Lib.hid hv0
  clear hv0 hcell0
  by_cases hle0 : l0.length ≤ 1048576
  rotate_left
  · go_enter Tryd.func6, Tryd.ntmps6
    go_wp2
    go_ret
    exact ⟨rfl, (Below.refl w.heap.size w)⟩
  have hlen := lenC_len l0
  go_enter Tryd.func6, Tryd.ntmps6
  have tok : True := trivial
  go_wp2_with (first | (go_at_call 11; clear tok; have hz : (l0 : List Int).length ≤ 1099511627776 := (by omega); refine (toIntS_c l0 _ _ (Hv0.out.ext (Below.refl w.heap.size w)) hz).mono ?_; clear hz; rintro e w1 ⟨v1, rfl, ho1, hx1⟩; obtain ⟨A1, m1, c1, rfl⟩ := ho1.form))
  have tok : True := trivial
  go_wp2_with (first | (go_at_call 18; clear tok; refine (specCoverLengths_c l0 _ _ (Own.ints ho1)).mono ?_; rintro e w2 ⟨v2, rfl, ho2, hx2⟩; obtain ⟨A2, m2, c2, rfl⟩ := ho2.form))
  have X1 := Lib.hid (Ext.tr (Below.refl w.heap.size w) hx1)
  have X2 := Lib.hid (Ext.tr X1.out hx2)
  have tok : True := trivial
  go_wp2_with (first | (go_at_call 11; clear tok; have hz : (l0 : List Int).length ≤ 1099511627776 := (by omega); refine (toIntS_c l0 _ _ (Hv0.out.ext X2.out) hz).mono ?_; clear hz; rintro e w3 ⟨v3, rfl, ho3, hx3⟩; obtain ⟨A3, m3, c3, rfl⟩ := ho3.form))
  have X3 := Lib.hid (Ext.tr X2.out hx3)
  have tok : True := trivial
  go_wp2_with (first | (go_at_call 19; clear tok; refine (coverLengths_c l0 _ _ (Own.ints ho3) (TabAt.ext HT.out X3.out)).mono ?_; rintro e w4 ⟨v4, rfl, ho4, hx4⟩; obtain ⟨A4, m4, c4, rfl⟩ := ho4.form))
  have K0_3 := Lib.hid (Own.ext ho2 hx3)
  have K0_4 := Lib.hid (Own.ext K0_3.out hx4)
  have tok : True := trivial
  go_wp2_with (first | (go_at_call 13; clear tok; refine (eqIntS_c (lenC l0) (lenC l0) _ _ _ (Own.ints ho4) (Own.ints K0_4.out)).mono ?_; rintro e w5 ⟨b5, rfl, hb5, hx5⟩; obtain rfl := hb5.2 rfl; clear hb5))
  have X4 := Lib.hid (Ext.tr X3.out hx4)
  have X5 := Lib.hid (Ext.tr X4.out hx5)
  have tok : True := trivial
  go_wp2_with (first | (go_at_call 11; clear tok; have hz : (l0 : List Int).length ≤ 1099511627776 := (by omega); refine (toIntS_c l0 _ _ (Hv0.out.ext X5.out) hz).mono ?_; clear hz; rintro e w6 ⟨v6, rfl, ho6, hx6⟩; obtain ⟨A6, m6, c6, rfl⟩ := ho6.form))
  have K1_4 := Lib.hid (Own.ext ho3 hx4)
  have K1_5 := Lib.hid (Own.ext K1_4.out hx5)
  have K1_6 := Lib.hid (Own.ext K1_5.out hx6)
  have tok : True := trivial
  go_wp2_with (first | (go_at_call 13; clear tok; refine (eqIntS_c l0 l0 _ _ _ (Own.ints K1_6.out) (Own.ints ho6)).mono ?_; rintro e w7 ⟨b7, rfl, hb7, hx7⟩; obtain rfl := hb7.2 rfl; clear hb7))
  have K1_7 := Lib.hid (Own.ext K1_6.out hx7)
  have tok : True := trivial
  go_wp2_with (first | (go_at_call 20; clear tok; refine (markIntS_q l0 1 _ _ K1_7.out (by omega) (by omega)).mono ?_; rintro e w8 ⟨q8, rfl, hq8, hl8, hm8, hg8⟩))
  have K2_5 := Lib.hid (Own.ext ho4 hx5)
  have K2_6 := Lib.hid (Own.ext K2_5.out hx6)
  have K2_7 := Lib.hid (Own.ext K2_6.out hx7)
  have K2_8 := Lib.hid (Own.kept K2_7.out hg8 (Own.apart' ho3 ho4))
  have K0_5 := Lib.hid (Own.ext K0_4.out hx5)
  have K0_6 := Lib.hid (Own.ext K0_5.out hx6)
  have K0_7 := Lib.hid (Own.ext K0_6.out hx7)
  have K0_8 := Lib.hid (Own.kept K0_7.out hg8 (Own.apart ho2 ho3))
  have tok : True := trivial
  go_wp2_with (first | (go_at_call 13; clear tok; refine (eqIntS_c (lenC l0) (lenC l0) _ _ _ (Own.ints K2_8.out) (Own.ints K0_8.out)).mono ?_; rintro e w9 ⟨b9, rfl, hb9, hx9⟩; obtain rfl := hb9.2 rfl; clear hb9))
  have K2_9 := Lib.hid (Own.ext K2_8.out hx9)
  have tok : True := trivial
  go_wp2_with (first | (go_at_call 20; clear tok; refine (markIntS_q (lenC l0) 1 _ _ K2_9.out (by omega) (by omega)).mono ?_; rintro e w10 ⟨q10, rfl, hq10, hl10, hm10, hg10⟩))
  have tok : True := trivial
  go_wp2_with (first | (go_at_call 21; clear tok; refine (heldIntS_q ((lenC l0)).length 1 _ _ (Own.ints hm10) (by omega) (by omega)).mono ?_; rintro e wq ⟨q11, rfl, hq11, hl11, rfl⟩; obtain rfl : q10 = q11 := hq10.out.trans hq11.out.symm))
  have X6 := Lib.hid (Ext.tr X5.out hx6)
  have X7 := Lib.hid (Ext.tr X6.out hx7)
  have X8 := Lib.hid (Ext.mark X7.out K1_7.out hg8 X2.out.size)
  have X9 := Lib.hid (Ext.tr X8.out hx9)
  have X10 := Lib.hid (Ext.mark X9.out K2_9.out hg10 X3.out.size)
  have tok : True := trivial
  go_wp2_with (first | (go_at_call 11; clear tok; have hz : (l0 : List Int).length ≤ 1099511627776 := (by omega); refine (toIntS_c l0 _ _ (Hv0.out.ext X10.out) hz).mono ?_; clear hz; rintro e w12 ⟨v12, rfl, ho12, hx12⟩; obtain ⟨A12, m12, c12, rfl⟩ := ho12.form))
  have X11 := Lib.hid (Ext.tr X10.out hx12)
  have tok : True := trivial
  go_wp2_with (first | (go_at_call 19; clear tok; refine (coverLengths_c l0 _ _ (Own.ints ho12) (TabAt.ext HT.out X11.out)).mono ?_; rintro e w13 ⟨v13, rfl, ho13, hx13⟩; obtain ⟨A13, m13, c13, rfl⟩ := ho13.form))
  have K0_9 := Lib.hid (Own.ext K0_8.out hx9)
  have K0_10 := Lib.hid (Own.kept K0_9.out hg10 (Own.apart K0_3.out ho4))
  have K0_11 := Lib.hid (Own.ext K0_10.out hx12)
  have K0_12 := Lib.hid (Own.ext K0_11.out hx13)
  have tok : True := trivial
  go_wp2_with (first | (go_at_call 13; clear tok; refine (eqIntS_c (lenC l0) (lenC l0) _ _ _ (Own.ints ho13) (Own.ints K0_12.out)).mono ?_; rintro e w14 ⟨b14, rfl, hb14, hx14⟩; obtain rfl := hb14.2 rfl; clear hb14))
  have K2_11 := Lib.hid (Own.ext hm10 hx12)
  have K2_12 := Lib.hid (Own.ext K2_11.out hx13)
  have K2_13 := Lib.hid (Own.ext K2_12.out hx14)
  have tok : True := trivial
  go_wp2_with (first | (go_at_call 21; clear tok; refine (heldIntS_q ((lenC l0)).length 1 _ _ (Own.ints K2_13.out) (by omega) (by omega)).mono ?_; rintro e wq ⟨q15, rfl, hq15, hl15, rfl⟩; obtain rfl : q10 = q15 := hq10.out.trans hq15.out.symm))
  go_ret
  have X12 := Lib.hid (Ext.tr X11.out hx13)
  have X13 := Lib.hid (Ext.tr X12.out hx14)
  exact ⟨rfl, X13.out⟩

namespace fnExactCoverLengthsGlue
set_option maxRecDepth 100000 in
theorem lifted (os : Os) (started : os.Started) (H : Type) (enc : TypeId × Value → H) :
    ReturnsInHanded {} Tryd.checked os 6 .any (fun w args => (Rows.fnExactCoverLengthsSpec.pre enc Tryd.prog Tryd.f6 [] false w args ∧ laidMetH Tryd.prog laidD w) ∧ sizedMet enc Tryd.prog Tryd.f6 (OpenSpec.ofChange Rows.fnExactCoverLengthsSpec) false w args) (Rows.fnExactCoverLengthsSpec.post enc Tryd.prog Tryd.f6 false true false false) := by
  refine returnsInHanded_of_change_and (C := Tryd.checked) (X := fun w _ => laidMetH Tryd.prog laidD w) (fun _ _ _ hh h => h.of_heap hh) own started (by kernel_rfl) Tryd.func6
    (ChangeSpec.witness_shaped (enc := enc) (C := Tryd.checked) (os := os) (X := fun w _ => laidMetH Tryd.prog laidD w) false (World.doorLaid Tryd.prog 400 os) #[.slice none 0 0] 8 rfl (World.shaped_of_RefB (by kernel_rfl) (by kernel_rfl)) (by kernel_rfl) (by kernel_rfl) (by kernel_rfl) (door_met os _)) ?_
  intro W base args ds gs before hval0 hW _ _ hL _
  have hval : ∀ (j : Nat) t v, Tryd.f6.params[j]? = some t → args[j]? = some v → Value.okWide Tryd.prog W .any base t v := hval0
  have hW' := hW
  obtain ⟨p, q, hA0, hV, rfl, hfz, hnd⟩ := hW
  have hA : DataW.TrodAll enc Tryd.prog W 0 (fun _ => true) true Tryd.f6.params.toList args.toList ds p := hA0
  rw [Tryd.params6] at hA hval
  obtain ⟨v0, vs0, d0, ds0, p0, q0, hargs, rfl, rfl, h0, r0⟩ := trodAll_cons hA
  obtain ⟨rfl, rfl, rfl⟩ := trodAll_nil r0
  obtain rfl : args = #[v0] := by cases args; simp_all
  obtain ⟨rfl, rfl⟩ := trodVars_none hV
  have k0 := h0
  have lt0 : ∀ x ∈ p0, x.block < W.heap.size := by obtain ⟨m, hm⟩ := k0; exact DataW.trod_lt m _ _ _ hm
  obtain ⟨l0, w0⟩ := ints_in (hval 0 22 v0 rfl rfl) h0
  clear hA0 hval0
  refine (lawCoverLengths_c l0 v0 W w0 (tab_of hL)).mono fun e W' ⟨he, bel⟩ => ?_
  subst he
  exact ⟨_, rfl, _, _, _, [], _, [], hW', trodAll_mk1 (shut_bool Tryd.underlying4 _), (trodAll_cons_mk (Below.trod laidOut (by kernel_rfl) (of_decide_eq_true (by kernel_rfl)) k0 bel lt0) trodAll_mk0), rfl, bel.frame _, fun h => by cases h⟩
theorem over : Rows.fnExactCoverLengthsRow.holds Tryd.pinned (OpenSpec.ofChange Rows.fnExactCoverLengthsSpec) :=
  OpenClaim.holds_of_wide 6 Tryd.f6 rfl rfl rfl rfl rfl rfl rfl ⟨rfl, rfl, rfl, rfl, rfl⟩ rfl rfl rfl rfl rfl (by kernel_rfl) Tryd.func6 (by kernel_rfl)
    (of_decide_eq_true (by kernel_rfl)) (by unfold Func.isWrapper; first | (rw [if_pos (by decide +kernel)]; kernel_rfl) | (rw [if_neg (by decide +kernel)]; exact ⟨rfl, rfl⟩))
    (fun os started H enc _ => lifted os started H enc)
end fnExactCoverLengthsGlue
theorem fnExactCoverLengths_row : Rows.FnExactCoverLengthsSaid := fnExactCoverLengthsGlue.over
/-- THE STATEMENT: the tied card. -/
theorem fnExactCoverLengths_holds : Rows.FnExactCoverLengthsCardSaid :=
  Claim7.holds_tied_plain_at .later [] [.data, .data] true (true, "3abe9f833a8b8edb0d05945cb33223a3fcc9d5363a0a962ac53fb35b646198e0") false
    fnExactCoverLengths_row (fun _ h => by cases h) (by kernel_rfl) (fun _ h => by cases h) fnExactCoverLengths_row_tie rfl ⟨rfl, rfl⟩ (by kernel_rfl) rfl
    (fun f fn hf hfn => by
      obtain rfl : f = 6 := Option.some.inj ((show Tryd.prog.funcNamed "loop.example/g03204/laws.FnExactCoverLengths" = some 6 by kernel_rfl).symm.trans hf) |>.symm
      obtain rfl : fn = Tryd.f6 := (Option.some.inj (Tryd.func6.symm.trans hfn)).symm
      exact ⟨by kernel_rfl, fun j t ht => by
        rw [Tryd.params6] at ht
        have hm : t ∈ [22] := by simpa using Array.mem_of_getElem? ht
        have hall : ([22].all fun u => !Tryd.prog.wantsStandIn u) = true := by kernel_rfl
        exact (show Tryd.prog.wantsStandIn t = false by simpa using List.all_eq_true.1 hall t hm)⟩)
    (by kernel_rfl)
#print axioms fnExactCoverLengths_holds
end Go.Proofs.YtjenhnmfbphbnaaDoor
