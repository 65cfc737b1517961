/- Contracts of the laws' own helpers on rhythms: eqRhythm, markRhythm, heldRhythm, szRhythm, toRhythm. -/
import Derived.Test.YtaiigheknmndnaaRhy
import Derived.Test.YtaiigheknmndnaaLaw
namespace Go.Proofs.Ytaiigheknmndnaa
open Go.RowKit

theorem eqRhythm_c (n m : Int) (l l' : List Int) (v u : Value) (w : World) (hv : Ints w v l) (hu : Ints w u l') : Calls Try.prog 22 #[.agg #[.int .i64 n, v], .agg #[.int .i64 m, u]] w (RB (n = m ∧ l = l') w) := by
  have hx := two_boxes w (.cells #[.int .i64 n, v] 29) (.cells #[.int .i64 m, u] 29)
  have Hx := Lib.hid hx
  obtain ⟨A, c, hve, _, _⟩ := hv.form0
  obtain ⟨A', c', hue, _, _⟩ := hu.form0
  obtain ⟨k, hk⟩ : ∃ k, k = l.length := ⟨_, rfl⟩
  obtain ⟨k', hk'⟩ : ∃ k', k' = l'.length := ⟨_, rfl⟩
  rw [← hk] at hve
  rw [← hk'] at hue
  subst hve
  subst hue
  have Hv := Lib.hid (hv.ext hx)
  have Hu := Lib.hid (hu.ext hx)
  clear hv hu hx hk hk'
  by_cases hnm : n = m
  · have hb : ((n : Int) != m) = false := by simp [hnm]
    have Hnm := Lib.hid hnm
    clear hnm
    go_enter Try.func22, Try.ntmps22
    go_wp2_with (first | (go_at_call 15; refine (eqIntS_c l l' _ _ _ Hv.out Hu.out).mono ?_; rintro e w2 ⟨b2, rfl, hb2, hx2⟩))
    all_goals
      go_ret
      exact ⟨_, rfl, by simp_all [Hnm.out], Ext.tr Hx.out hx2⟩
  · have hb : ((n : Int) != m) = true := by rw [bne_iff_ne]; exact hnm
    have Hnm := Lib.hid hnm
    clear hnm
    go_enter Try.func22, Try.ntmps22
    go_wp2
    go_ret
    exact ⟨false, rfl, by simp [Hnm.out], Hx.out⟩
def MarkPostR (l : List Int) (k : Nat) (B : Nat) (v : Value) (w : World) (e : Ending) (w' : World) : Prop :=
  ∃ q : Nat, e = .returned (.int .i64 q) ∧ Hid (q = k + l.length) ∧ q ≤ k + l.length ∧ Own w' B v (marks k l.length) ∧ w.grownBy w' v.ownBlock
theorem markRhythm_q (l : List Int) (n : Int) (k : Nat) (v : Value) (w : World) {B : Nat} (hv : Own w B v l) (hk0 : k ≤ 1099511627776) (hl0 : l.length ≤ 1099511627776) :
    Calls Try.prog 23 #[.agg #[.int .i64 n, v], .int .i64 k] w (MarkPostR l k B v w) := by
  obtain ⟨A, kk, c, rfl⟩ := hv.form
  have Hv := Lib.hid (hv.alloc (.cells #[.int .i64 n, .slice A kk c] 29))
  clear hv
  go_enter Try.func23, Try.ntmps23
  go_wp2_with (first | (go_at_call 18; refine (markIntS_q l k _ _ Hv.out (by omega) (by omega)).mono ?_; rintro e w2 ⟨q, rfl, hq, hql, ho, hg⟩))
  go_ret
  exact ⟨q, rfl, hq, hql, ho, grownBy_tr (grownBy_of_ext (one_box w _) _) hg⟩
def HeldPostR (n : Nat) (k : Nat) (w : World) (e : Ending) (w' : World) : Prop := ∃ q : Nat, e = .returned (.int .i64 q) ∧ Hid (q = k + n) ∧ q ≤ k + n ∧ Ext w w'
theorem heldRhythm_q (n : Nat) (z : Int) (k : Nat) (v : Value) (w : World) (hv : Ints w v (marks k n)) (hk0 : k ≤ 1099511627776) (hl0 : n ≤ 1099511627776) :
    Calls Try.prog 24 #[.agg #[.int .i64 z, v], .int .i64 k] w (HeldPostR n k w) := by
  obtain ⟨A, c, hve, _, _⟩ := hv.form0
  obtain ⟨kk, hkk⟩ : ∃ kk, kk = (marks k n).length := ⟨_, rfl⟩
  rw [← hkk] at hve
  subst hve
  have Hv := Lib.hid (hv.alloc (.cells #[.int .i64 z, .slice A kk c] 29))
  clear hv hkk
  have hk1 : (0 : Int) ≤ (k : Int) := by omega
  go_enter Try.func24, Try.ntmps24
  go_wp2_with (first | (go_at_call 19; refine (heldIntS_q n k _ _ Hv.out (by omega) (by omega)).mono ?_; rintro e wq ⟨q, rfl, hq, hql, rfl⟩))
  go_ret
  exact ⟨q, rfl, hq, hql, one_box w _⟩
def SzT (n : Nat) (left : Int) (w : World) (e : Ending) (w' : World) : Prop := ∃ q : Int, e = .returned (.int .i64 q) ∧ Hid (q = left - n) ∧ 0 ≤ q ∧ q ≤ left ∧ Ext w w'
theorem szRhythm_t (l : List Int) (n left : Int) (v : Value) (w : World) (hv : Ints w v l) (hl : 0 ≤ left ∧ left ≤ 1048576) (hle : (l.length : Int) ≤ left) : Calls Try.prog 40 #[.agg #[.int .i64 n, v], .int .i64 left] w (SzT l.length left w) := by
  obtain ⟨A, c, hve, _, _⟩ := hv.form0
  obtain ⟨k, hk⟩ : ∃ k, k = l.length := ⟨_, rfl⟩
  rw [← hk] at hve hle
  rw [← hk]
  subst hve
  obtain ⟨q, hq⟩ : ∃ q, q = left - (k : Int) := ⟨_, rfl⟩
  have hqw : IntKind.i64.wrap (left - (k : Int)) = q := by rw [← hq]; exact IntWalk.i64_in _ (by omega)
  have hq0 : 0 ≤ q ∧ q ≤ left := by omega
  have Hq := Lib.hid hq
  clear hq hk hv
  go_enter Try.func40, Try.ntmps40
  go_wp2_with (first | (go_at_call 65; go_in))
  go_ret
  exact ⟨q, rfl, Hq, hq0.1, hq0.2, one_box w _⟩
theorem szRhythm_f (l : List Int) (n left : Int) (v : Value) (w : World) (hv : Ints w v l) (hl : 0 ≤ left ∧ left ≤ 1048576) (hle : ¬ (l.length : Int) ≤ left) : Calls Try.prog 40 #[.agg #[.int .i64 n, v], .int .i64 left] w fun e w' => e = .returned (.int .i64 (-1)) ∧ Ext w w' := by
  obtain ⟨A, c, hve, _, hcm⟩ := hv.form0
  obtain ⟨k, hk⟩ : ∃ k, k = l.length := ⟨_, rfl⟩
  have hlc := hv.len
  rw [← hk] at hve hle hlc
  subst hve
  obtain ⟨q, hq⟩ : ∃ q, q = left - (k : Int) := ⟨_, rfl⟩
  have hqw : IntKind.i64.wrap (left - (k : Int)) = q := by rw [← hq]; exact IntWalk.i64_in _ (by omega)
  have hq0 : q < 0 := by omega
  clear hq hk hv
  go_enter Try.func40, Try.ntmps40
  go_wp2_with (first | (go_at_call 65; go_in))
  go_ret
  exact ⟨rfl, one_box w _⟩
theorem toRhythm_c (n : Int) (l : List Int) (v : Value) (w : World) (hv : Ints w v l) (hlen : l.length ≤ 1048576) : Calls Try.prog 42 #[.agg #[.int .i64 n, v]] w (RR n l w) := by
  obtain ⟨A, c, hve, _, hcm⟩ := hv.form0
  obtain ⟨k, hk⟩ : ∃ k, k = l.length := ⟨_, rfl⟩
  rw [← hk] at hve
  subst hve
  have hst := RIn.start (w.alloc (.cells #[.int .i64 n, .slice A k c] 24)) n
  have hx1 := one_box w (.cells #[.int .i64 n, .slice A k c] 24)
  have Hst := Lib.hid hst
  have Hv := Lib.hid (hv.ext (hx1.tr hst.2.2.2))
  clear hk hv hst
  go_enter Try.func42, Try.ntmps42
  go_wp2_with (first | (go_at_call 38; have hz : (l : List Int).length ≤ 1099511627776 := (by omega); refine (toIntS_c l _ _ Hv.out hz).mono ?_; clear hz; rintro e w2 ⟨v2, rfl, ho2, hx2⟩; obtain ⟨Av, nv, cv, rfl⟩ := ho2.form; have Hr1 := Lib.hid (Hst.out.app (ho2.base (by simp)) (grownBy_of_ext hx2 _)); have Hf := Lib.hid Hr1.out.2.2.fin; have h1 := Hr1.out.2.1.c1; have h2 := Hr1.out.2.1.f 1; have h3 := Hr1.out.2.2.2.1.c0; have h4 := Hr1.out.2.2.2.1.c1; have h5 := Hr1.out.2.2.1.c0; have h6 := Hr1.out.2.2.1.f 0; have h7 := (Hr1.out.2.2.1.set0 (m := n)).c1; have h8 := (Hr1.out.2.2.1.set0 (m := n)).f 1; simp only [World.size_alloc] at h1 h2 h3 h4 h5 h6 h7 h8))
  have h9 := Hf.out.1.c0
  have h10 := Hf.out.1.c1
  simp only [World.size_alloc] at h9 h10
  have hx3 := hx1.tr Hf.out.2.2
  have ho3 := Hf.out.2.1.base (B' := w.heap.size) (by simp)
  simp only [World.size_alloc] at hx3 ho3
  exact bodyPost_ret (v := .agg #[.int .i64 n, .slice Av nv cv]) (by simp [results, Try.results42, h9, h10, go_sem]) rfl ⟨_, rfl, ho3, hx3⟩
end Go.Proofs.Ytaiigheknmndnaa
