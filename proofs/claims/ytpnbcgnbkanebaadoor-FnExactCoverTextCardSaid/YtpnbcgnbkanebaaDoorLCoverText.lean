/- For all slices of ints and every int the law FnExactCoverText returns true: the program's CoverText returns what the reference's returns, and leaves its arguments. Conditions: none beyond the row's own; the tables of math/bits are tied to the program's text. -/
import Derived.Test.YtpnbcgnbkanebaaDoorFct
import Derived.Test.YtpnbcgnbkanebaaDoorLaw
import Derived.Test.YtpnbcgnbkanebaaDoorGlueK
namespace Go.Proofs.YtpnbcgnbkanebaaDoor
open Go.ChangeShapes Go.WideShapes Go.ChangeAt Go.RowKit
attribute [local irreducible] covT
set_option maxHeartbeats 4000000 in
theorem lawCoverText_c (l0 : List Int) (v'0 : Value) (a1 : Int) (l2 : List Int) (v'2 : Value) (w : World) (hv0 : Ints w v'0 l0) (_ : I64 a1) (hv2 : Ints w v'2 l2) (ht : TabAt 1 Lib.deBruijn64tab w) : Calls Tryd.prog 4 #[v'0, .int .i64 a1, v'2] w fun e w' => e = .returned (.bool true) ∧ Ext w w' := by
  have HT := Lib.hid ht
  clear ht
  obtain ⟨A'0, c'0, hve0, hlc0, hcm0, hcell0⟩ := id hv0
  subst hve0
  have Hv0 := Lib.hid hv0
  clear hv0 hcell0
  obtain ⟨A'2, c'2, hve2, hlc2, hcm2, hcell2⟩ := id hv2
  subst hve2
  have Hv2 := Lib.hid hv2
  clear hv2 hcell2
  by_cases hle0 : l0.length ≤ 1048576
  rotate_left
  · go_enter Tryd.func4, Tryd.ntmps4
    go_wp2
    go_ret
    exact ⟨rfl, (Below.refl w.heap.size w)⟩
  by_cases hle2 : l2.length ≤ 1048576
  rotate_left
  · go_enter Tryd.func4, Tryd.ntmps4
    go_wp2
    go_ret
    exact ⟨rfl, (Below.refl w.heap.size w)⟩
  go_enter Tryd.func4, Tryd.ntmps4
  have tok : True := trivial
  go_wp2_with (first | (go_at_call 7; clear tok; have hz : (l0 : List Int).length ≤ 1099511627776 := (by omega); refine (toIntS_c l0 _ _ (Hv0.out.ext (Below.refl w.heap.size w)) hz).mono ?_; clear hz; rintro e w1 ⟨v1, rfl, ho1, hx1⟩; obtain ⟨A1, m1, c1, rfl⟩ := ho1.form))
  have X1 := Lib.hid (Ext.tr (Below.refl w.heap.size w) hx1)
  have tok : True := trivial
  go_wp2_with (first | (go_at_call 7; clear tok; have hz : (l2 : List Int).length ≤ 1099511627776 := (by omega); refine (toIntS_c l2 _ _ (Hv2.out.ext X1.out) hz).mono ?_; clear hz; rintro e w2 ⟨v2, rfl, ho2, hx2⟩; obtain ⟨A2, m2, c2, rfl⟩ := ho2.form))
  have K0_2 := Lib.hid (Own.ext ho1 hx2)
  have tok : True := trivial
  go_wp2_with (first | (go_at_call 10; clear tok; refine (specCoverText_c l0 a1 l2 _ _ _ (Own.ints K0_2.out) (by first | assumption | (unfold I64; omega)) (Own.ints ho2)).mono ?_; rintro e w3 ⟨rfl, hx3⟩))
  have X2 := Lib.hid (Ext.tr X1.out hx2)
  have X3 := Lib.hid (Ext.tr X2.out hx3)
  have tok : True := trivial
  go_wp2_with (first | (go_at_call 7; clear tok; have hz : (l0 : List Int).length ≤ 1099511627776 := (by omega); refine (toIntS_c l0 _ _ (Hv0.out.ext X3.out) hz).mono ?_; clear hz; rintro e w4 ⟨v4, rfl, ho4, hx4⟩; obtain ⟨A4, m4, c4, rfl⟩ := ho4.form))
  have X4 := Lib.hid (Ext.tr X3.out hx4)
  have tok : True := trivial
  go_wp2_with (first | (go_at_call 7; clear tok; have hz : (l2 : List Int).length ≤ 1099511627776 := (by omega); refine (toIntS_c l2 _ _ (Hv2.out.ext X4.out) hz).mono ?_; clear hz; rintro e w5 ⟨v5, rfl, ho5, hx5⟩; obtain ⟨A5, m5, c5, rfl⟩ := ho5.form))
  have K1_5 := Lib.hid (Own.ext ho4 hx5)
  have X5 := Lib.hid (Ext.tr X4.out hx5)
  have tok : True := trivial
  go_wp2_with (first | (go_at_call 11; clear tok; refine (coverText_c l0 a1 l2 _ _ _ (Own.ints K1_5.out) (by first | assumption | (unfold I64; omega)) (Own.ints ho5) (TabAt.ext HT.out X5.out)).mono ?_; rintro e w6 ⟨rfl, hx6⟩))
  have X6 := Lib.hid (Ext.tr X5.out hx6)
  have tok : True := trivial
  go_wp2_with (first | (go_at_call 7; clear tok; have hz : (l0 : List Int).length ≤ 1099511627776 := (by omega); refine (toIntS_c l0 _ _ (Hv0.out.ext X6.out) hz).mono ?_; clear hz; rintro e w7 ⟨v7, rfl, ho7, hx7⟩; obtain ⟨A7, m7, c7, rfl⟩ := ho7.form))
  have K1_6 := Lib.hid (Own.ext K1_5.out hx6)
  have K1_7 := Lib.hid (Own.ext K1_6.out hx7)
  have tok : True := trivial
  go_wp2_with (first | (go_at_call 9; clear tok; refine (eqIntS_c l0 l0 _ _ _ (Own.ints K1_7.out) (Own.ints ho7)).mono ?_; rintro e w8 ⟨b8, rfl, hb8, hx8⟩; obtain rfl := hb8.2 rfl; clear hb8))
  have X7 := Lib.hid (Ext.tr X6.out hx7)
  have X8 := Lib.hid (Ext.tr X7.out hx8)
  have tok : True := trivial
  go_wp2_with (first | (go_at_call 7; clear tok; have hz : (l2 : List Int).length ≤ 1099511627776 := (by omega); refine (toIntS_c l2 _ _ (Hv2.out.ext X8.out) hz).mono ?_; clear hz; rintro e w9 ⟨v9, rfl, ho9, hx9⟩; obtain ⟨A9, m9, c9, rfl⟩ := ho9.form))
  have K2_6 := Lib.hid (Own.ext ho5 hx6)
  have K2_7 := Lib.hid (Own.ext K2_6.out hx7)
  have K2_8 := Lib.hid (Own.ext K2_7.out hx8)
  have K2_9 := Lib.hid (Own.ext K2_8.out hx9)
  have tok : True := trivial
  go_wp2_with (first | (go_at_call 9; clear tok; refine (eqIntS_c l2 l2 _ _ _ (Own.ints K2_9.out) (Own.ints ho9)).mono ?_; rintro e w10 ⟨b10, rfl, hb10, hx10⟩; obtain rfl := hb10.2 rfl; clear hb10))
  go_ret
  have X9 := Lib.hid (Ext.tr X8.out hx9)
  have X10 := Lib.hid (Ext.tr X9.out hx10)
  exact ⟨rfl, X10.out⟩

namespace fnExactCoverTextGlue
set_option maxRecDepth 100000 in
theorem lifted (os : Os) (started : os.Started) (H : Type) (enc : TypeId × Value → H) :
    ReturnsInHanded {} Tryd.checked os 4 .any (fun w args => (Rows.fnExactCoverTextSpec.pre enc Tryd.prog Tryd.f4 [] false w args ∧ laidMetH Tryd.prog laidD w) ∧ sizedMet enc Tryd.prog Tryd.f4 (OpenSpec.ofChange Rows.fnExactCoverTextSpec) false w args) (Rows.fnExactCoverTextSpec.post enc Tryd.prog Tryd.f4 false true false false) := by
  refine returnsInHanded_of_change_and (C := Tryd.checked) (X := fun w _ => laidMetH Tryd.prog laidD w) (fun _ _ _ hh h => h.of_heap hh) own started (by kernel_rfl) Tryd.func4
    (ChangeSpec.witness_shaped (enc := enc) (C := Tryd.checked) (os := os) (X := fun w _ => laidMetH Tryd.prog laidD w) false (World.doorLaid Tryd.prog 400 os) #[.slice none 0 0, .int .i64 0, .slice none 0 0] 8 rfl (World.shaped_of_RefB (by kernel_rfl) (by kernel_rfl)) (by kernel_rfl) (by kernel_rfl) (by kernel_rfl) (door_met os _)) ?_
  intro W base args ds gs before hval0 hW _ _ hL _
  have hval : ∀ (j : Nat) t v, Tryd.f4.params[j]? = some t → args[j]? = some v → Value.okWide Tryd.prog W .any base t v := hval0
  have hW' := hW
  obtain ⟨p, q, hA0, hV, rfl, hfz, hnd⟩ := hW
  have hA : DataW.TrodAll enc Tryd.prog W 0 (fun _ => true) true Tryd.f4.params.toList args.toList ds p := hA0
  rw [Tryd.params4] at hA hval
  obtain ⟨v0, vs0, d0, ds0, p0, q0, hargs, rfl, rfl, h0, r0⟩ := trodAll_cons hA
  obtain ⟨v1, vs1, d1, ds1, p1, q1, rfl, rfl, rfl, h1, r1⟩ := trodAll_cons r0
  obtain ⟨v2, vs2, d2, ds2, p2, q2, rfl, rfl, rfl, h2, r2⟩ := trodAll_cons r1
  obtain ⟨rfl, rfl, rfl⟩ := trodAll_nil r2
  obtain rfl : args = #[v0, v1, v2] := by cases args; simp_all
  obtain ⟨rfl, rfl⟩ := trodVars_none hV
  have k0 := h0
  have lt0 : ∀ x ∈ p0, x.block < W.heap.size := by obtain ⟨m, hm⟩ := k0; exact DataW.trod_lt m _ _ _ hm
  obtain ⟨l0, w0⟩ := ints_in (hval 0 22 v0 rfl rfl) h0
  obtain ⟨a1, rfl, rfl, rfl, w1⟩ := open_int Tryd.underlying3 (hval 1 3 v1 rfl rfl) h1
  have k2 := h2
  have lt2 : ∀ x ∈ p2, x.block < W.heap.size := by obtain ⟨m, hm⟩ := k2; exact DataW.trod_lt m _ _ _ hm
  obtain ⟨l2, w2⟩ := ints_in (hval 2 22 v2 rfl rfl) h2
  clear hA0 hval0
  refine (lawCoverText_c l0 v0 a1 l2 v2 W w0 (I64.of_wf w1) w2 (tab_of hL)).mono fun e W' ⟨he, bel⟩ => ?_
  subst he
  exact ⟨_, rfl, _, _, _, [], _, [], hW', trodAll_mk1 (shut_bool Tryd.underlying4 _), (trodAll_cons_mk (Below.trod laidOut (by kernel_rfl) (of_decide_eq_true (by kernel_rfl)) k0 bel lt0) (trodAll_cons_mk (shut_int Tryd.underlying3 w1) (trodAll_cons_mk (Below.trod laidOut (by kernel_rfl) (of_decide_eq_true (by kernel_rfl)) k2 bel lt2) trodAll_mk0))), rfl, bel.frame _, fun h => by cases h⟩
theorem over : Rows.fnExactCoverTextRow.holds Tryd.pinned (OpenSpec.ofChange Rows.fnExactCoverTextSpec) :=
  OpenClaim.holds_of_wide 4 Tryd.f4 rfl rfl rfl rfl rfl rfl rfl ⟨rfl, rfl, rfl, rfl, rfl⟩ rfl rfl rfl rfl rfl (by kernel_rfl) Tryd.func4 (by kernel_rfl)
    (of_decide_eq_true (by kernel_rfl)) (by unfold Func.isWrapper; first | (rw [if_pos (by decide +kernel)]; kernel_rfl) | (rw [if_neg (by decide +kernel)]; exact ⟨rfl, rfl⟩))
    (fun os started H enc _ => lifted os started H enc)
end fnExactCoverTextGlue
theorem fnExactCoverText_row : Rows.FnExactCoverTextSaid := fnExactCoverTextGlue.over
/-- THE STATEMENT: the tied card. -/
theorem fnExactCoverText_holds : Rows.FnExactCoverTextCardSaid :=
  Claim7.holds_tied_plain_at .later [] [.data, .data] true (true, "bc658f82d9fcc92c8d6e5f91ba9b7d79da6686ebec8cec489acae7accacc7ebf") false
    fnExactCoverText_row (fun _ h => by cases h) (by kernel_rfl) (fun _ h => by cases h) fnExactCoverText_row_tie rfl ⟨rfl, rfl⟩ (by kernel_rfl) rfl
    (fun f fn hf hfn => by
      obtain rfl : f = 4 := Option.some.inj ((show Tryd.prog.funcNamed "loop.example/g03204/laws.FnExactCoverText" = some 4 by kernel_rfl).symm.trans hf) |>.symm
      obtain rfl : fn = Tryd.f4 := (Option.some.inj (Tryd.func4.symm.trans hfn)).symm
      exact ⟨by kernel_rfl, fun j t ht => by
        rw [Tryd.params4] at ht
        have hm : t ∈ [22, 3, 22] := by simpa using Array.mem_of_getElem? ht
        have hall : ([22, 3, 22].all fun u => !Tryd.prog.wantsStandIn u) = true := by kernel_rfl
        exact (show Tryd.prog.wantsStandIn t = false by simpa using List.all_eq_true.1 hall t hm)⟩)
    (by kernel_rfl)
#print axioms fnExactCoverText_holds
end Go.Proofs.YtpnbcgnbkanebaaDoor
