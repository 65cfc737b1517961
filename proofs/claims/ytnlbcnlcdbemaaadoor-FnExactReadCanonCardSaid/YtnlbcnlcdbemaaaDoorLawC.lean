/- Contracts of the laws' own helpers on canons: szCanon, toCanon, eqCanon, markCanon, heldCanon. -/
import Derived.Test.YtnlbcnlcdbemaaaDoorCan
import Derived.Test.YtnlbcnlcdbemaaaDoorLawR
namespace Go.Proofs.YtnlbcnlcdbemaaaDoor
open Go.RowKit
set_option maxRecDepth 100000 in
set_option maxHeartbeats 1000000 in
theorem eqCanon_c (n m n' m' : Int) (l r l' r' : List Int) (v u v' u' : Value) (w : World) (hv : Ints w v l) (hu : Ints w u r) (hv' : Ints w v' l') (hu' : Ints w u' r') :
    Calls Tryd.prog 8 #[.agg #[.int .i64 n, v, .int .i64 m, u], .agg #[.int .i64 n', v', .int .i64 m', u']] w (RB (n = n' ∧ m = m' ∧ l = l' ∧ r = r') w) := by
  have hx1 := one_box w (.cells #[.int .i64 n, v, .int .i64 m, u] 28)
  have hx2 := one_box (w.alloc (.cells #[.int .i64 n, v, .int .i64 m, u] 28)) (.cells #[.int .i64 n', v', .int .i64 m', u'] 28)
  have ha := (CVar.new (T := 28) w n v m u).ext hx2
  have hb : CVar ((w.alloc (.cells #[.int .i64 n, v, .int .i64 m, u] 28)).alloc (.cells #[.int .i64 n', v', .int .i64 m', u'] 28)) (w.heap.size + 1) n' v' m' u' := by
    simpa only [World.size_alloc] using CVar.new (T := 28) (w.alloc (.cells #[.int .i64 n, v, .int .i64 m, u] 28)) n' v' m' u'
  have hx := hx1.tr hx2
  obtain ⟨A1, k1, e1, _, _⟩ := hv.form0
  obtain ⟨A2, k2, e2, _, _⟩ := hu.form0
  obtain ⟨A3, k3, e3, _, _⟩ := hv'.form0
  obtain ⟨A4, k4, e4, _, _⟩ := hu'.form0
  obtain ⟨L1, hL1⟩ : ∃ L, L = l.length := ⟨_, rfl⟩
  obtain ⟨L2, hL2⟩ : ∃ L, L = r.length := ⟨_, rfl⟩
  obtain ⟨L3, hL3⟩ : ∃ L, L = l'.length := ⟨_, rfl⟩
  obtain ⟨L4, hL4⟩ : ∃ L, L = r'.length := ⟨_, rfl⟩
  rw [← hL1] at e1
  rw [← hL2] at e2
  rw [← hL3] at e3
  rw [← hL4] at e4
  subst e1
  subst e2
  subst e3
  subst e4
  have H1 := Lib.hid (hv.ext hx)
  have H2 := Lib.hid (hu.ext hx)
  have H3 := Lib.hid (hv'.ext hx)
  have H4 := Lib.hid (hu'.ext hx)
  have Hx := Lib.hid hx
  have Ha := Lib.hid ha
  have Hb := Lib.hid hb
  clear hv hu hv' hu' hx hx1 hx2 ha hb hL1 hL2 hL3 hL4
  have ca0 := Ha.out.c0
  have ca1 := Ha.out.c1
  have cb0 := Hb.out.c0
  have cb1 := Hb.out.c1
  by_cases h1 : n = n' ∧ l = l'
  · have Hh1 := Lib.hid h1
    clear h1
    go_enter Tryd.func8, Tryd.ntmps8
    have tok : True := trivial
    go_wp2_with (first | (go_at_call 19; clear tok; refine (eqRhythm_c n n' l l' _ _ _ H1.out H3.out).mono ?_; rintro e w2 ⟨b2, rfl, hb2, hx2⟩; (obtain rfl := hb2.2 Hh1.out; clear hb2; have da2 := (Ha.out.ext hx2).c2; have da3 := (Ha.out.ext hx2).c3; have db2 := (Hb.out.ext hx2).c2; have db3 := (Hb.out.ext hx2).c3)))
    have tok : True := trivial
    go_wp2_with (first | (go_at_call 19; clear tok; refine (eqRhythm_c m m' r r' _ _ _ (H2.out.ext hx2) (H4.out.ext hx2)).mono ?_; rintro e w3 ⟨b3, rfl, hb3, hx3⟩))
    all_goals
      go_ret
      exact ⟨_, rfl, by have := Hh1.out; simp_all, Hx.out.tr (hx2.tr hx3)⟩
  · have Hh1 := Lib.hid h1
    clear h1
    go_enter Tryd.func8, Tryd.ntmps8
    have tok : True := trivial
    go_wp2_with (first | (go_at_call 19; clear tok; refine (eqRhythm_c n n' l l' _ _ _ H1.out H3.out).mono ?_; rintro e w2 ⟨b2, rfl, hb2, hx2⟩; (obtain rfl := bool_f hb2 Hh1.out; clear hb2)))
    go_ret
    exact ⟨false, rfl, by have := Hh1.out; simp; intro h1 _ h2; exact absurd ⟨h1, h2⟩ this, Hx.out.tr hx2⟩
def MarkPostC (l r : List Int) (k B : Nat) (v u : Value) (w : World) (e : Ending) (w' : World) : Prop :=
  ∃ (q : Nat) (w1 : World), e = .returned (.int .i64 q) ∧ Hid (q = k + l.length + r.length) ∧ q ≤ k + l.length + r.length ∧ Own w1 B v (marks k l.length) ∧ w.grownBy w1 v.ownBlock ∧ Own w' B u (marks (k + l.length) r.length) ∧ w1.grownBy w' u.ownBlock
set_option maxRecDepth 100000 in
set_option maxHeartbeats 1000000 in
theorem markCanon_c (l r : List Int) (n m : Int) (k : Nat) (v u : Value) (w : World) {B : Nat} (hv : Own w B v l) (hu : Own w B u r) (hap : Apart v u) (hk : k ≤ 1000000000) (hl : l.length ≤ 1000000000) (hr : r.length ≤ 1000000000) :
    Calls Tryd.prog 11 #[.agg #[.int .i64 n, v, .int .i64 m, u], .int .i64 k] w (MarkPostC l r k B v u w) := by
  obtain ⟨A, na, c, rfl⟩ := hv.form
  obtain ⟨A', na', c', rfl⟩ := hu.form
  have hx := one_box w (.cells #[.int .i64 n, .slice A na c, .int .i64 m, .slice A' na' c'] 28)
  have Hx := Lib.hid hx
  have Ca := Lib.hid (CVar.new (T := 28) w n (.slice A na c) m (.slice A' na' c'))
  have Hv := Lib.hid (hv.ext hx)
  have Hu := Lib.hid (hu.ext hx)
  have Hu0 := Lib.hid hu
  have Hv0 := Lib.hid hv
  have Hap := Lib.hid hap
  have hc0 := Ca.out.c0
  have hc1 := Ca.out.c1
  clear hv hu hap hx
  go_enter Tryd.func11, Tryd.ntmps11
  have tok : True := trivial
  go_wp2_with (first | (go_at_call 21; clear tok; refine (markRhythm_q l n k _ _ Hv.out (by omega) (by omega)).mono ?_; rintro e w2 ⟨q2, rfl, hq2, hl2, hm2, hg2⟩; (have C2 := Lib.hid (Ca.out.kept hg2 (Hv0.out.ne_ge (Nat.le_refl _))); have hd2 := C2.out.c2; have hd3 := C2.out.c3)))
  have tok : True := trivial
  go_wp2_with (first | (go_at_call 21; clear tok; refine (markRhythm_q r m q2 _ _ (Hu.out.kept hg2 (Apart.rowC Hap.out)) (by omega) (by omega)).mono ?_; rintro e w3 ⟨q3, rfl, hq3, hl3, hm3, hg3⟩))
  go_ret
  refine ⟨q3, w2, rfl, ?_, by omega, hm2, grownBy_tr (grownBy_of_ext Hx.out _) hg2, ?_, hg3⟩
  · unfold Hid; rw [hq3.out, hq2.out]
  · rw [← hq2.out]; exact hm3
def HeldPostC (n n' k : Nat) (w : World) (e : Ending) (w' : World) : Prop := ∃ q : Nat, e = .returned (.int .i64 q) ∧ Hid (q = k + n + n') ∧ Ext w w'
set_option maxRecDepth 100000 in
set_option maxHeartbeats 1000000 in
theorem heldCanon_c (n n' : Nat) (z z' : Int) (k : Nat) (v u : Value) (w : World) (hv : Ints w v (marks k n)) (hu : Ints w u (marks (k + n) n')) (hk : k ≤ 1000000000) (hl : n ≤ 1000000000) (hr : n' ≤ 1000000000) :
    Calls Tryd.prog 12 #[.agg #[.int .i64 z, v, .int .i64 z', u], .int .i64 k] w (HeldPostC n n' k w) := by
  have hx := one_box w (.cells #[.int .i64 z, v, .int .i64 z', u] 28)
  have Hx := Lib.hid hx
  obtain ⟨A1, k1, e1, _, _⟩ := hv.form0
  obtain ⟨A2, k2, e2, _, _⟩ := hu.form0
  obtain ⟨L1, hL1⟩ : ∃ L, L = (marks k n).length := ⟨_, rfl⟩
  obtain ⟨L2, hL2⟩ : ∃ L, L = (marks (k + n) n').length := ⟨_, rfl⟩
  rw [← hL1] at e1
  rw [← hL2] at e2
  subst e1
  subst e2
  have Ca := Lib.hid (CVar.new (T := 28) w z (.slice A1 L1 k1) z' (.slice A2 L2 k2))
  have Hv := Lib.hid (hv.ext hx)
  have Hu := Lib.hid (hu.ext hx)
  have hc0 := Ca.out.c0
  have hc1 := Ca.out.c1
  clear hv hu hx hL1 hL2
  go_enter Tryd.func12, Tryd.ntmps12
  have tok : True := trivial
  go_wp2_with (first | (go_at_call 22; clear tok; refine (heldRhythm_q n z k _ _ Hv.out (by omega) (by omega)).mono ?_; rintro e w2 ⟨q2, rfl, hq2, hl2, hx2⟩; (have hd2 := (Ca.out.ext hx2).c2; have hd3 := (Ca.out.ext hx2).c3)))
  have Hu2 : Hid (Ints w2 (.slice A2 L2 k2) (marks q2 n')) := by unfold Hid; rw [hq2.out]; exact Hu.out.ext hx2
  have tok : True := trivial
  go_wp2_with (first | (go_at_call 22; clear tok; refine (heldRhythm_q n' z' q2 _ _ Hu2.out (by omega) (by omega)).mono ?_; rintro e w3 ⟨q3, rfl, hq3, hl3, hx3⟩))
  go_ret
  exact ⟨q3, rfl, by unfold Hid; rw [hq3.out, hq2.out], Hx.out.tr (hx2.tr hx3)⟩
end Go.Proofs.YtnlbcnlcdbemaaaDoor
