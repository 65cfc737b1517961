/- Contracts: block, l13Period. -/
import Derived.Test.YtkdodbhkobefiaaDoorFlin
import Derived.Test.YtkdodbhkobefiaaDoorPureL2
namespace Go.Proofs.YtkdodbhkobefiaaDoor
open Go.RowKit
def BlockPost (l : List Int) (w : World) (e : Ending) (w' : World) : Prop :=
  ∃ v, e = .returned (.tuple #[.int .i64 ((outc l).2.1 : Nat), v, .bool (outc l).1]) ∧ Own w' w.heap.size v (esI (outc l).2.2) ∧ Ext w w'
set_option maxHeartbeats 2000000 in
theorem block_c (l : List Int) (v : Value) (w : World) (hv : Ints w v l) : Calls Tryd.prog 19 #[v] w (BlockPost l w) := by
  have Hv := Lib.hid hv
  clear hv
  by_cases hp : PatOk l
  · have Hp := Lib.hid hp
    have hm := maskN_lt hp
    have hmo := maskN_odd hp
    obtain ⟨m, hme⟩ : ∃ m, m = maskN l := ⟨_, rfl⟩
    rw [← hme] at hm hmo
    have Hme := Lib.hid hme
    have Hmo := Lib.hid hmo
    clear hp hmo
    go_enter Tryd.func19, Tryd.ntmps19
    go_wp2_with (first | (go_at_call 11; refine (patternOk_c l _ _ Hv.out).mono ?_; rintro e w1 ⟨b, rfl, hb, rfl⟩; obtain rfl := hb.2 Hp.out; clear hb) | (go_at_call 21; refine (newLine_c l _ _ Hv.out Hp.out).mono ?_; rintro e w1 ⟨rfl, hb1, hx1⟩))
    rw [← hme] at hb1
    have Hb1 := Lib.hid hb1
    clear hb1 hme
    go_loopw [6] (fun o wr => ∃ (f s t : Nat) (es : List Nat), f + es.length = 4097 ∧ s < 8192 ∧ t ≤ 14 * es.length ∧ Hid (s % 2 = 0) ∧ Hid (run (maskN l) f s t es = run (maskN l) 4097 0 0 []) ∧ Hid (Own wr w.heap.size o (esI es)) ∧ Hid (Blk wr w.heap.size 46 (lnC t s m)) ∧ Ext w wr)
      (fun o _ => 4097 - (match o with | .slice _ n _ => n | _ => 0))
    case atStart => exact ⟨4097, 0, 0, [], rfl, by omega, by simp, rfl, rfl, Own.nil _ _, Hb1.out, hx1⟩
    case round =>
      obtain ⟨f, s, t, es, hf, hs, ht, hse, hrun, hown, hblk, hx⟩ := hrel
      obtain ⟨A, c, hv1, hlc, hcm⟩ := hown.out.slice
      rw [esI_len] at hv1 hlc
      subst hv1
      have hf0 : 0 < f := by
        rcases Nat.eq_zero_or_pos f with h0 | h0
        · have h1 := hrun.out
          rw [h0, outc_t Hp.out] at h1
          cases h1
        · exact h0
      obtain ⟨f', hff⟩ : ∃ f', f = f' + 1 := ⟨f - 1, by omega⟩
      subst hff
      have hst := step_facts Hmo.out hm hs hse.out
      have c0 : wr.cell? ⟨w.heap.size, 0, none⟩ = some (.int .i64 t) := hblk.out.cell 0
      have hne : Hid (Value.ownBlock (.slice A es.length c) ≠ some w.heap.size) := own_blk_ne hown.out hblk.out (by decide)
      go_wp2_with (first | (at_builtin; refine wp_append1 rfl (.tmp 15) (.tmp 20) rfl rfl rfl hown.out (by unfold I64; omega) (by rw [esI_len]; omega) hx.size ?_; intro v' w2 ho hg hb2 hat))
      have Hown2 : Hid (Own w2 w.heap.size v' (esI (es ++ [t]))) := by unfold Hid; rw [esI_snoc]; exact ho
      have Hblk2 : Hid (Blk w2 w.heap.size 46 (lnC t s m)) := hblk.out.grown hg hne.out
      obtain ⟨A2, cc2, hv2, hlc2, hcm2⟩ := Hown2.out.slice
      have hle2 : (es ++ [t]).length = es.length + 1 := by simp
      rw [esI_len, hle2] at hv2 hlc2
      subst hv2
      have hx2 : Ext w w2 := hx.trans hb2
      clear ho hg hb2 hat c0 hown hblk
      by_cases hand : s &&& m = 0
      · have hne2 : Hid (Value.ownBlock (.slice A2 (es.length + 1) cc2) ≠ some w.heap.size) := own_blk_ne Hown2.out Hblk2.out (by decide)
        have hrd : Hid ((D (s + m)).1 = 0 → outc l = (true, t + (D (s + m)).2, es ++ [t])) := fun h0 => outc_at Hp.out hrun.out (run_done (by rw [← Hme.out]; exact hand) (by rw [← Hme.out]; exact h0)) |>.trans (by rw [← Hme.out])
        have hro : Hid (¬ (D (s + m)).1 = 0 → run (maskN l) f' (D (s + m)).1 (t + (D (s + m)).2) (es ++ [t]) = run (maskN l) 4097 0 0 []) := by
          intro h0
          rw [← hrun.out, ← Hme.out]
          exact (run_on hand h0).symm
        have Hand := Lib.hid hand
        clear hand
        go_wp2_with (first | (go_at_call 22; refine (lay_t _ _ _ _ _ Hblk2.out hm hs (by omega) Hand.out).mono ?_; rintro e w3 ⟨rfl, hb3, hg3⟩; have c0 : w3.cell? ⟨w.heap.size, 0, none⟩ = some (.int .i64 ((t + (D (s + m)).2 : Nat) : Int)) := hb3.cell 0; have c1 : w3.cell? ⟨w.heap.size, 1, none⟩ = some (.int .i64 ((D (s + m)).1 : Nat)) := hb3.cell 1))
        · have h0 : (((D (s + m)).1 : Int) == 0) = true := by assumption
          have H := hrd.out (by rw [beq_iff_eq] at h0; omega)
          go_ret3
          exact ⟨_, by rw [H]; rfl, by rw [H]; exact Hown2.out.kept hg3 (.inr hne2.out), hx2.grown hg3 hx2.size (fun k hk => by cases hk; exact Nat.le_refl _)⟩
        · have h0 : (((D (s + m)).1 : Int) == 0) = false := by assumption
          have h1 : ¬ (D (s + m)).1 = 0 := by rw [beq_eq_false_iff_ne] at h0; omega
          refine ⟨⟨f', (D (s + m)).1, t + (D (s + m)).2, es ++ [t], by simp; omega, hst.1, by simp; omega, hst.2.1, hro.out h1, Hown2.out.kept hg3 (.inr hne2.out), hb3, hx2.grown hg3 hx2.size (fun k hk => by cases hk; exact Nat.le_refl _)⟩, ?_⟩
          show 4097 - (es.length + 1) < 4097 - es.length
          omega
      · have H : Hid (outc l = (false, t, [])) := outc_at Hp.out hrun.out (run_fail (by rw [← Hme.out]; exact hand))
        have Hand := Lib.hid hand
        clear hand
        go_wp2_with (first | (go_at_call 22; refine (lay_f _ _ _ _ _ Hblk2.out hm hs Hand.out).mono ?_; rintro e w3 ⟨rfl, hb3, hg3⟩; have c0 : w3.cell? ⟨w.heap.size, 0, none⟩ = some (.int .i64 t) := hb3.cell 0))
        go_ret3
        exact ⟨_, by rw [H.out]; rfl, by rw [H.out]; exact Own.nil _ _, hx2.grown hg3 hx2.size (fun k hk => by cases hk; exact Nat.le_refl _)⟩
  · have H := Lib.hid (outc_f hp)
    have Hp := Lib.hid hp
    clear hp
    go_enter Tryd.func19, Tryd.ntmps19
    go_wp2_with (first | (go_at_call 11; refine (patternOk_c l _ _ Hv.out).mono ?_; rintro e w1 ⟨b, rfl, hb, rfl⟩; obtain rfl := bool_f hb Hp.out; clear hb))
    go_ret3
    exact ⟨_, by rw [H.out]; rfl, by rw [H.out]; exact Own.nil _ _, Below.refl _ _⟩

end Go.Proofs.YtkdodbhkobefiaaDoor
