/- Contracts of the laws' own helpers on rhythms: eqRhythm, markRhythm, heldRhythm, szRhythm, toRhythm. -/
import Derived.Test.YtnlbcnlcdbemaaaDoorRhy
import Derived.Test.YtnlbcnlcdbemaaaDoorLaw
namespace Go.Proofs.YtnlbcnlcdbemaaaDoor
open Go.RowKit

theorem eqRhythm_c (n m : Int) (l l' : List Int) (v u : Value) (w : World) (hv : Ints w v l) (hu : Ints w u l') : Calls Tryd.prog 19 #[.agg #[.int .i64 n, v], .agg #[.int .i64 m, u]] w (RB (n = m ∧ l = l') w) := by
  have hx := two_boxes w (.cells #[.int .i64 n, v] 26) (.cells #[.int .i64 m, u] 26)
  have Hx := Lib.hid hx
  obtain ⟨A, c, hve, _, _⟩ := hv.form0
  obtain ⟨A', c', hue, _, _⟩ := hu.form0
  obtain ⟨k, hk⟩ : ∃ k, k = l.length := ⟨_, rfl⟩
  obtain ⟨k', hk'⟩ : ∃ k', k' = l'.length := ⟨_, rfl⟩
  rw [← hk] at hve
  rw [← hk'] at hue
  subst hve
  subst hue
  have Hv := Lib.hid (hv.ext hx)
  have Hu := Lib.hid (hu.ext hx)
  clear hv hu hx hk hk'
  by_cases hnm : n = m
  · have hb : ((n : Int) != m) = false := by simp [hnm]
    have Hnm := Lib.hid hnm
    clear hnm
    go_enter Tryd.func19, Tryd.ntmps19
    go_wp2_with (first | (go_at_call 32; refine (eqIntS_c l l' _ _ _ Hv.out Hu.out).mono ?_; rintro e w2 ⟨b2, rfl, hb2, hx2⟩))
    all_goals
      go_ret
      exact ⟨_, rfl, by simp_all [Hnm.out], Ext.tr Hx.out hx2⟩
  · have hb : ((n : Int) != m) = true := by rw [bne_iff_ne]; exact hnm
    have Hnm := Lib.hid hnm
    clear hnm
    go_enter Tryd.func19, Tryd.ntmps19
    go_wp2
    go_ret
    exact ⟨false, rfl, by simp [Hnm.out], Hx.out⟩
def MarkPostR (l : List Int) (k : Nat) (B : Nat) (v : Value) (w : World) (e : Ending) (w' : World) : Prop :=
  ∃ q : Nat, e = .returned (.int .i64 q) ∧ Hid (q = k + l.length) ∧ q ≤ k + l.length ∧ Own w' B v (marks k l.length) ∧ w.grownBy w' v.ownBlock
theorem markRhythm_q (l : List Int) (n : Int) (k : Nat) (v : Value) (w : World) {B : Nat} (hv : Own w B v l) (hk0 : k ≤ 1099511627776) (hl0 : l.length ≤ 1099511627776) :
    Calls Tryd.prog 21 #[.agg #[.int .i64 n, v], .int .i64 k] w (MarkPostR l k B v w) := by
  obtain ⟨A, kk, c, rfl⟩ := hv.form
  have Hv := Lib.hid (hv.alloc (.cells #[.int .i64 n, .slice A kk c] 26))
  clear hv
  go_enter Tryd.func21, Tryd.ntmps21
  go_wp2_with (first | (go_at_call 33; refine (markIntS_q l k _ _ Hv.out (by omega) (by omega)).mono ?_; rintro e w2 ⟨q, rfl, hq, hql, ho, hg⟩))
  go_ret
  exact ⟨q, rfl, hq, hql, ho, grownBy_tr (grownBy_of_ext (one_box w _) _) hg⟩
def HeldPostR (n : Nat) (k : Nat) (w : World) (e : Ending) (w' : World) : Prop := ∃ q : Nat, e = .returned (.int .i64 q) ∧ Hid (q = k + n) ∧ q ≤ k + n ∧ Ext w w'
theorem heldRhythm_q (n : Nat) (z : Int) (k : Nat) (v : Value) (w : World) (hv : Ints w v (marks k n)) (hk0 : k ≤ 1099511627776) (hl0 : n ≤ 1099511627776) :
    Calls Tryd.prog 22 #[.agg #[.int .i64 z, v], .int .i64 k] w (HeldPostR n k w) := by
  obtain ⟨A, c, hve, _, _⟩ := hv.form0
  obtain ⟨kk, hkk⟩ : ∃ kk, kk = (marks k n).length := ⟨_, rfl⟩
  rw [← hkk] at hve
  subst hve
  have Hv := Lib.hid (hv.alloc (.cells #[.int .i64 z, .slice A kk c] 26))
  clear hv hkk
  have hk1 : (0 : Int) ≤ (k : Int) := by omega
  go_enter Tryd.func22, Tryd.ntmps22
  go_wp2_with (first | (go_at_call 34; refine (heldIntS_q n k _ _ Hv.out (by omega) (by omega)).mono ?_; rintro e wq ⟨q, rfl, hq, hql, rfl⟩))
  go_ret
  exact ⟨q, rfl, hq, hql, one_box w _⟩
end Go.Proofs.YtnlbcnlcdbemaaaDoor
