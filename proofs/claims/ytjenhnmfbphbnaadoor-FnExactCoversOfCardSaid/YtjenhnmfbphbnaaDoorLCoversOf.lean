/- For every slice of ints and every int the law FnExactCoversOf returns true: the program's CoversOf returns what the reference's returns, and leaves its argument. Conditions: none beyond the row's own; the tables of math/bits are tied to the program's text. -/
import Derived.Test.YtjenhnmfbphbnaaDoorFcc
import Derived.Test.YtjenhnmfbphbnaaDoorPureX
import Derived.Test.YtjenhnmfbphbnaaDoorLawL
import Derived.Test.YtjenhnmfbphbnaaDoorGlueK
namespace Go.Proofs.YtjenhnmfbphbnaaDoor
open Go.ChangeShapes Go.WideShapes Go.ChangeAt Go.RowKit
attribute [local irreducible] allC
theorem allC_all (p : List Int) (n : Int) : ∀ r ∈ allC p n, r.length ≤ 1000 := by
  intro r hr
  unfold allC at hr
  split at hr
  · rename_i h
    have hp := (patB_iff p).1 h.1
    have := cv_elems (maskN p) (maskN (mirL p)) n.toNat (maskN_odd hp) (maskN_odd (mirL_ok hp)) (by omega) (n.toNat + 1) 0 0 r (Nat.zero_le _) (Nat.two_pow_pos _) rfl hr
    omega
  · cases hr
set_option maxHeartbeats 4000000 in
theorem lawCoversOf_c (l0 : List Int) (v'0 : Value) (a1 : Int) (w : World) (hv0 : Ints w v'0 l0) (_ : I64 a1) (ht : TabAt 1 Lib.deBruijn64tab w) : Calls Tryd.prog 7 #[v'0, .int .i64 a1] w fun e w' => e = .returned (.bool true) ∧ Ext w w' := by
  have HT := Lib.hid ht
  clear ht
  obtain ⟨A'0, c'0, hve0, hlc0, hcm0, hcell0⟩ := id hv0
  subst hve0
  have Hv0 := Lib.hid hv0
  clear hv0 hcell0
  by_cases hle0 : l0.length ≤ 1048576
  rotate_left
  · go_enter Tryd.func7, Tryd.ntmps7
    go_wp2
    go_ret
    exact ⟨rfl, (Below.refl w.heap.size w)⟩
  have hlen := allC_len l0 a1
  have Hall := Lib.hid (allC_all l0 a1)
  go_enter Tryd.func7, Tryd.ntmps7
  have tok : True := trivial
  go_wp2_with (first | (go_at_call 11; clear tok; have hz : (l0 : List Int).length ≤ 1099511627776 := (by omega); refine (toIntS_c l0 _ _ (Hv0.out.ext (Below.refl w.heap.size w)) hz).mono ?_; clear hz; rintro e w1 ⟨v1, rfl, ho1, hx1⟩; obtain ⟨A1, m1, c1, rfl⟩ := ho1.form))
  have tok : True := trivial
  go_wp2_with (first | (go_at_call 22; clear tok; refine (specCoversOf_c l0 a1 _ _ (Own.ints ho1) (by first | assumption | (unfold I64; omega))).mono ?_; rintro e w2 ⟨v2, us2, rfl, ho2, hx2⟩))
  have X1 := Lib.hid (Ext.tr (Below.refl w.heap.size w) hx1)
  have X2 := Lib.hid (Ext.tr X1.out hx2)
  have tok : True := trivial
  go_wp2_with (first | (go_at_call 11; clear tok; have hz : (l0 : List Int).length ≤ 1099511627776 := (by omega); refine (toIntS_c l0 _ _ (Hv0.out.ext X2.out) hz).mono ?_; clear hz; rintro e w3 ⟨v3, rfl, ho3, hx3⟩; obtain ⟨A3, m3, c3, rfl⟩ := ho3.form))
  have X3 := Lib.hid (Ext.tr X2.out hx3)
  have tok : True := trivial
  go_wp2_with (first | (go_at_call 23; clear tok; refine (coversOf_c l0 a1 _ _ (Own.ints ho3) (by first | assumption | (unfold I64; omega)) (TabAt.ext HT.out X3.out)).mono ?_; rintro e w4 ⟨v4, us4, rfl, ho4, hx4⟩))
  have K0_3 := Lib.hid (Lss.ext ho2 hx3)
  have K0_4 := Lib.hid (Lss.ext K0_3.out hx4)
  have tok : True := trivial
  go_wp2_with (first | (go_at_call 24; clear tok; refine (eqIntSS_c (allC l0 a1) (allC l0 a1) _ _ _ _ _ _ _ ho4 K0_4.out (by omega)).mono ?_; rintro e w5 ⟨b5, rfl, hb5, hx5⟩; obtain rfl := hb5.2 rfl; clear hb5))
  have X4 := Lib.hid (Ext.tr X3.out hx4)
  have X5 := Lib.hid (Ext.tr X4.out hx5)
  have tok : True := trivial
  go_wp2_with (first | (go_at_call 11; clear tok; have hz : (l0 : List Int).length ≤ 1099511627776 := (by omega); refine (toIntS_c l0 _ _ (Hv0.out.ext X5.out) hz).mono ?_; clear hz; rintro e w6 ⟨v6, rfl, ho6, hx6⟩; obtain ⟨A6, m6, c6, rfl⟩ := ho6.form))
  have K1_4 := Lib.hid (Own.ext ho3 hx4)
  have K1_5 := Lib.hid (Own.ext K1_4.out hx5)
  have K1_6 := Lib.hid (Own.ext K1_5.out hx6)
  have tok : True := trivial
  go_wp2_with (first | (go_at_call 13; clear tok; refine (eqIntS_c l0 l0 _ _ _ (Own.ints K1_6.out) (Own.ints ho6)).mono ?_; rintro e w7 ⟨b7, rfl, hb7, hx7⟩; obtain rfl := hb7.2 rfl; clear hb7))
  have K1_7 := Lib.hid (Own.ext K1_6.out hx7)
  have tok : True := trivial
  go_wp2_with (first | (go_at_call 20; clear tok; refine (markIntS_q l0 1 _ _ K1_7.out (by omega) (by omega)).mono ?_; rintro e w8 ⟨q8, rfl, hq8, hl8, hm8, hg8⟩))
  have K2_5 := Lib.hid (Lss.ext ho4 hx5)
  have K2_6 := Lib.hid (Lss.ext K2_5.out hx6)
  have K2_7 := Lib.hid (Lss.ext K2_6.out hx7)
  have K2_8 := Lib.hid (Lss.keptLow K2_7.out hg8 (fun k hk => (ho3.lt k hk).2))
  have K0_5 := Lib.hid (Lss.ext K0_4.out hx5)
  have K0_6 := Lib.hid (Lss.ext K0_5.out hx6)
  have K0_7 := Lib.hid (Lss.ext K0_6.out hx7)
  have K0_8 := Lib.hid (Lss.keptHigh ho2 K0_7.out hg8 (fun k hk => (ho3.lt k hk).1))
  have tok : True := trivial
  go_wp2_with (first | (go_at_call 24; clear tok; refine (eqIntSS_c (allC l0 a1) (allC l0 a1) _ _ _ _ _ _ _ K2_8.out K0_8.out (by omega)).mono ?_; rintro e w9 ⟨b9, rfl, hb9, hx9⟩; obtain rfl := hb9.2 rfl; clear hb9))
  have K2_9 := Lib.hid (Lss.ext K2_8.out hx9)
  have tok : True := trivial
  go_wp2_with (first | (go_at_call 25; clear tok; refine (markIntSS_c (allC l0 a1) 1 _ _ _ _ K2_9.out Hall.out (by omega) (by omega)).mono ?_; rintro e w10 ⟨q10, us10, rfl, hq10, hl10, hmw10, hbw10⟩))
  have K2_10 := Lib.hid hmw10
  have tok : True := trivial
  go_wp2_with (first | (go_at_call 26; clear tok; refine (heldIntSS_c (allC l0 a1) 1 _ _ _ _ K2_10.out Hall.out (by omega) (by omega)).mono ?_; rintro e wq ⟨q11, rfl, hq11, rfl⟩; obtain rfl : q10 = q11 := hq10.out.trans hq11.out.symm))
  have X6 := Lib.hid (Ext.tr X5.out hx6)
  have X7 := Lib.hid (Ext.tr X6.out hx7)
  have X8 := Lib.hid (Ext.mark X7.out K1_7.out hg8 X2.out.size)
  have X9 := Lib.hid (Ext.tr X8.out hx9)
  have X10 := Lib.hid (Ext.markS X9.out hbw10 X3.out.size)
  have tok : True := trivial
  go_wp2_with (first | (go_at_call 11; clear tok; have hz : (l0 : List Int).length ≤ 1099511627776 := (by omega); refine (toIntS_c l0 _ _ (Hv0.out.ext X10.out) hz).mono ?_; clear hz; rintro e w12 ⟨v12, rfl, ho12, hx12⟩; obtain ⟨A12, m12, c12, rfl⟩ := ho12.form))
  have X11 := Lib.hid (Ext.tr X10.out hx12)
  have tok : True := trivial
  go_wp2_with (first | (go_at_call 23; clear tok; refine (coversOf_c l0 a1 _ _ (Own.ints ho12) (by first | assumption | (unfold I64; omega)) (TabAt.ext HT.out X11.out)).mono ?_; rintro e w13 ⟨v13, us13, rfl, ho13, hx13⟩))
  have K0_9 := Lib.hid (Lss.ext K0_8.out hx9)
  have K0_10 := Lib.hid (Lss.keptB K0_9.out K0_3.out hbw10)
  have K0_11 := Lib.hid (Lss.ext K0_10.out hx12)
  have K0_12 := Lib.hid (Lss.ext K0_11.out hx13)
  have tok : True := trivial
  go_wp2_with (first | (go_at_call 24; clear tok; refine (eqIntSS_c (allC l0 a1) (allC l0 a1) _ _ _ _ _ _ _ ho13 K0_12.out (by omega)).mono ?_; rintro e w14 ⟨b14, rfl, hb14, hx14⟩; obtain rfl := hb14.2 rfl; clear hb14))
  have K2_11 := Lib.hid (Lss.ext K2_10.out hx12)
  have K2_12 := Lib.hid (Lss.ext K2_11.out hx13)
  have K2_13 := Lib.hid (Lss.ext K2_12.out hx14)
  have tok : True := trivial
  go_wp2_with (first | (go_at_call 26; clear tok; refine (heldIntSS_c (allC l0 a1) 1 _ _ _ _ K2_13.out Hall.out (by omega) (by omega)).mono ?_; rintro e wq ⟨q15, rfl, hq15, rfl⟩; obtain rfl : q10 = q15 := hq10.out.trans hq15.out.symm))
  go_ret
  have X12 := Lib.hid (Ext.tr X11.out hx13)
  have X13 := Lib.hid (Ext.tr X12.out hx14)
  exact ⟨rfl, X13.out⟩

namespace fnExactCoversOfGlue
set_option maxRecDepth 100000 in
theorem lifted (os : Os) (started : os.Started) (H : Type) (enc : TypeId × Value → H) :
    ReturnsInHanded {} Tryd.checked os 7 .any (fun w args => (Rows.fnExactCoversOfSpec.pre enc Tryd.prog Tryd.f7 [] false w args ∧ laidMetH Tryd.prog laidD w) ∧ sizedMet enc Tryd.prog Tryd.f7 (OpenSpec.ofChange Rows.fnExactCoversOfSpec) false w args) (Rows.fnExactCoversOfSpec.post enc Tryd.prog Tryd.f7 false true false false) := by
  refine returnsInHanded_of_change_and (C := Tryd.checked) (X := fun w _ => laidMetH Tryd.prog laidD w) (fun _ _ _ hh h => h.of_heap hh) own started (by kernel_rfl) Tryd.func7
    (ChangeSpec.witness_shaped (enc := enc) (C := Tryd.checked) (os := os) (X := fun w _ => laidMetH Tryd.prog laidD w) false (World.doorLaid Tryd.prog 400 os) #[.slice none 0 0, .int .i64 0] 8 rfl (World.shaped_of_RefB (by kernel_rfl) (by kernel_rfl)) (by kernel_rfl) (by kernel_rfl) (by kernel_rfl) (door_met os _)) ?_
  intro W base args ds gs before hval0 hW _ _ hL _
  have hval : ∀ (j : Nat) t v, Tryd.f7.params[j]? = some t → args[j]? = some v → Value.okWide Tryd.prog W .any base t v := hval0
  have hW' := hW
  obtain ⟨p, q, hA0, hV, rfl, hfz, hnd⟩ := hW
  have hA : DataW.TrodAll enc Tryd.prog W 0 (fun _ => true) true Tryd.f7.params.toList args.toList ds p := hA0
  rw [Tryd.params7] at hA hval
  obtain ⟨v0, vs0, d0, ds0, p0, q0, hargs, rfl, rfl, h0, r0⟩ := trodAll_cons hA
  obtain ⟨v1, vs1, d1, ds1, p1, q1, rfl, rfl, rfl, h1, r1⟩ := trodAll_cons r0
  obtain ⟨rfl, rfl, rfl⟩ := trodAll_nil r1
  obtain rfl : args = #[v0, v1] := by cases args; simp_all
  obtain ⟨rfl, rfl⟩ := trodVars_none hV
  have k0 := h0
  have lt0 : ∀ x ∈ p0, x.block < W.heap.size := by obtain ⟨m, hm⟩ := k0; exact DataW.trod_lt m _ _ _ hm
  obtain ⟨l0, w0⟩ := ints_in (hval 0 22 v0 rfl rfl) h0
  obtain ⟨a1, rfl, rfl, rfl, w1⟩ := open_int Tryd.underlying3 (hval 1 3 v1 rfl rfl) h1
  clear hA0 hval0
  refine (lawCoversOf_c l0 v0 a1 W w0 (I64.of_wf w1) (tab_of hL)).mono fun e W' ⟨he, bel⟩ => ?_
  subst he
  exact ⟨_, rfl, _, _, _, [], _, [], hW', trodAll_mk1 (shut_bool Tryd.underlying4 _), (trodAll_cons_mk (Below.trod laidOut (by kernel_rfl) (of_decide_eq_true (by kernel_rfl)) k0 bel lt0) (trodAll_cons_mk (shut_int Tryd.underlying3 w1) trodAll_mk0)), rfl, bel.frame _, fun h => by cases h⟩
theorem over : Rows.fnExactCoversOfRow.holds Tryd.pinned (OpenSpec.ofChange Rows.fnExactCoversOfSpec) :=
  OpenClaim.holds_of_wide 7 Tryd.f7 rfl rfl rfl rfl rfl rfl rfl ⟨rfl, rfl, rfl, rfl, rfl⟩ rfl rfl rfl rfl rfl (by kernel_rfl) Tryd.func7 (by kernel_rfl)
    (of_decide_eq_true (by kernel_rfl)) (by unfold Func.isWrapper; first | (rw [if_pos (by decide +kernel)]; kernel_rfl) | (rw [if_neg (by decide +kernel)]; exact ⟨rfl, rfl⟩))
    (fun os started H enc _ => lifted os started H enc)
end fnExactCoversOfGlue
theorem fnExactCoversOf_row : Rows.FnExactCoversOfSaid := fnExactCoversOfGlue.over
/-- THE STATEMENT: the tied card. -/
theorem fnExactCoversOf_holds : Rows.FnExactCoversOfCardSaid :=
  Claim7.holds_tied_plain_at .later [] [.data, .data] true (true, "3abe9f833a8b8edb0d05945cb33223a3fcc9d5363a0a962ac53fb35b646198e0") false
    fnExactCoversOf_row (fun _ h => by cases h) (by kernel_rfl) (fun _ h => by cases h) fnExactCoversOf_row_tie rfl ⟨rfl, rfl⟩ (by kernel_rfl) rfl
    (fun f fn hf hfn => by
      obtain rfl : f = 7 := Option.some.inj ((show Tryd.prog.funcNamed "loop.example/g03204/laws.FnExactCoversOf" = some 7 by kernel_rfl).symm.trans hf) |>.symm
      obtain rfl : fn = Tryd.f7 := (Option.some.inj (Tryd.func7.symm.trans hfn)).symm
      exact ⟨by kernel_rfl, fun j t ht => by
        rw [Tryd.params7] at ht
        have hm : t ∈ [22, 3] := by simpa using Array.mem_of_getElem? ht
        have hall : ([22, 3].all fun u => !Tryd.prog.wantsStandIn u) = true := by kernel_rfl
        exact (show Tryd.prog.wantsStandIn t = false by simpa using List.all_eq_true.1 hall t hm)⟩)
    (by kernel_rfl)
#print axioms fnExactCoversOf_holds
end Go.Proofs.YtjenhnmfbphbnaaDoor
