/- Contracts: the phase of a rhythm; PhaseRhythm on both sides. -/
import Derived.Test.YtjecdmlojgmbeaaGreatDoorFmap
namespace Go.Proofs.YtjecdmlojgmbeaaGreatDoor
open Go.RowKit
/-- the beats of a rhythm and of its rotation -/
def phL (n : Nat) (l : List Int) (k : Int) : List Int := rhL n (l ++ rotL n l k)
theorem rotL_mem {n : Nat} {l : List Int} {k x : Int} (h : x ∈ rotL n l k) : 0 ≤ x ∧ x < n := (mem_rhL.1 h).1
theorem rotL_len (n : Nat) (l : List Int) (k : Int) : (rotL n l k).length ≤ n := rhL_len n _
theorem rh_ok {n : Nat} (hn : 1 ≤ n) (hn2 : n ≤ 24) (l : List Int) : RhyOk n (rhL n l) := ⟨by omega, rhL_inc n l, fun x hx => (mem_rhL.1 hx).1⟩
def pbOk (n : Int) (l : List Int) (k : Int) : Prop := RhyOk n l ∧ -1000 ≤ k ∧ k ≤ 1000
instance (n : Int) (l : List Int) (k : Int) : Decidable (pbOk n l k) := by unfold pbOk; infer_instance
def pbB (n : Int) (l : List Int) (k : Int) : Bool := decide (pbOk n l k)
def pbN (n : Int) (l : List Int) (k : Int) : Int := if pbOk n l k then n else 0
def rotLL (n : Int) (l : List Int) (k : Int) : List Int := if pbOk n l k then rotL n.toNat l k else []
def phrLL (n : Int) (l : List Int) (k : Int) : List Int := if pbOk n l k then phL n.toNat l k else []
theorem rot_t {n : Nat} {l : List Int} {k : Int} (h : pbOk n l k) : pbB n l k = true ∧ pbN n l k = n ∧ rotLL n l k = rotL n l k := by
  unfold pbB pbN rotLL; rw [if_pos h, if_pos h]; exact ⟨by simpa using h, rfl, by simp⟩
theorem rot_f {n : Int} {l : List Int} {k : Int} (h : ¬ pbOk n l k) : pbB n l k = false ∧ pbN n l k = 0 ∧ rotLL n l k = [] := by
  unfold pbB pbN rotLL; rw [if_neg h, if_neg h]; exact ⟨by simpa using h, rfl, rfl⟩
theorem phr_t {n : Nat} {l : List Int} {k : Int} (h : pbOk n l k) : pbB n l k = true ∧ pbN n l k = n ∧ phrLL n l k = phL n l k := by
  unfold pbB pbN phrLL; rw [if_pos h, if_pos h]; exact ⟨by simpa using h, rfl, by simp⟩
theorem phr_f {n : Int} {l : List Int} {k : Int} (h : ¬ pbOk n l k) : pbB n l k = false ∧ pbN n l k = 0 ∧ phrLL n l k = [] := by
  unfold pbB pbN phrLL; rw [if_neg h, if_neg h]; exact ⟨by simpa using h, rfl, rfl⟩
theorem rotLL_len (n : Int) (l : List Int) (k : Int) : (rotLL n l k).length ≤ 1000000 := by
  unfold rotLL
  split
  · rename_i h; have := rhL_len n.toNat (remL n.toNat (addL k l)); unfold rotL; have := h.1.1; omega
  · exact Nat.zero_le _
theorem phrLL_len (n : Int) (l : List Int) (k : Int) : (phrLL n l k).length ≤ 1000000 := by
  unfold phrLL
  split
  · rename_i h; have := rhL_len n.toNat (l ++ rotL n.toNat l k); unfold phL; have := h.1.1; omega
  · exact Nat.zero_le _
set_option maxRecDepth 100000 in
set_option maxHeartbeats 1000000 in
theorem rotateRhythm_c (n : Int) (l : List Int) (k : Int) (v : Value) (w : World) (hv : Ints w v l) : Calls Tryz.prog 24 #[.agg #[.int .i64 n, v], .int .i64 k] w (RRB (pbN n l k) (rotLL n l k) (pbB n l k) w) := by
  obtain ⟨A, c, hve, _, _⟩ := hv.form0
  obtain ⟨m, hm⟩ : ∃ m, m = l.length := ⟨_, rfl⟩
  rw [← hm] at hve
  subst hve
  obtain ⟨w0, hw0⟩ : ∃ w0, w0 = w.alloc (.cells #[.int .i64 n, .slice A m c] 25) := ⟨_, rfl⟩
  have hs0 : w0.heap.size = w.heap.size + 1 := by rw [hw0]; simp
  have hx : Ext w w0 := by rw [hw0]; exact one_box w _
  have hx2 := one_box w0 (.cells #[.int .i64 0, .slice none 0 0] 25)
  have ha : RVar w0 w.heap.size n (.slice A m c) := by rw [hw0]; exact RVar.new (T := 25) w n (.slice A m c)
  have hv0 := RVar.new (T := 25) w0 0 (.slice none 0 0)
  have Hv := Lib.hid ((hv.ext hx).ext hx2)
  have Hx := Lib.hid hx
  have Hx2 := Lib.hid hx2
  have Ra := Lib.hid (ha.ext hx2)
  have Rr0 := Lib.hid hv0
  rw [hs0] at hv0
  have Rr := Lib.hid hv0
  clear hv hx hx2 hm ha hv0 hs0
  by_cases hr : RhyOk n l
  · have Hro := Lib.hid hr
    by_cases hk : -1000 ≤ k ∧ k ≤ 1000
    · obtain ⟨nn, rfl, hn1, hn24, hlen, hl⟩ := hr.nat
      have H := Lib.hid (rot_t (n := nn) ⟨hr, hk.1, hk.2⟩)
      have Hl := Lib.hid hl
      have Hlen := Lib.hid hlen
      clear hr hl hlen
      subst hw0
      go_enter Tryz.func24, Tryz.ntmps24
      go_wp2_with (first | (go_at_call 31; refine (rhythmOk_c (nn : Int) l _ _ Hv.out).mono ?_; rintro e w3 ⟨b3, rfl, hb3, hx3⟩; obtain rfl := hb3.2 Hro.out; clear hb3; have hc1 := (Ra.out.ext hx3).c0; have hc2 := (Ra.out.ext hx3).c1) | (go_at_call 30; refine (within_t _ ?_).mono ?_; (focus omega); rintro e w1 ⟨rfl, rfl⟩) | (go_at_call 30; refine (within_f _ ?_).mono ?_; (focus omega); rintro e w1 ⟨rfl, rfl⟩) | (go_at_call 23; refine (rotated_c nn l k _ _ (Hv.out.ext hx3) ⟨hn1, hn24⟩ Hl.out Hlen.out (by omega)).mono ?_; rintro e w4 ⟨v4, rfl, how4, hxw4⟩; obtain ⟨Au, nu, cu, rfl⟩ := how4.form; have hd0 := (Rr.out.ext (hx3.tr hxw4)).c0; have hf0 := (Rr.out.ext (hx3.tr hxw4)).f 0; have hd1 := ((Rr.out.ext (hx3.tr hxw4)).set0 (m := (nn : Int))).c1; have hf1 := ((Rr.out.ext (hx3.tr hxw4)).set0 (m := (nn : Int))).f 1))
      have hz1 := Nat.le_trans (by simp : (w.alloc (.cells #[.int .i64 (nn : Int), .slice A m c] 25)).heap.size + 1 ≤ _) hx3.size
      have Hr := Lib.hid (ret_fin (n := (nn : Int)) (Rr0.out.ext (hx3.tr hxw4)) how4 hz1 (Hx2.out.tr (hx3.tr hxw4)))
      have hcf0 := Hr.out.1.c0
      have hcf1 := Hr.out.1.c1
      have ho6 := Hr.out.2.1.base (B' := w.heap.size) (by simp)
      have hx6 := Hx.out.tr Hr.out.2.2
      simp only [World.size_alloc] at hcf0 hcf1 ho6 hx6
      exact bodyPost_ret (v := .tuple #[.agg #[.int .i64 nn, .slice Au nu cu], .bool true]) (by simp [results, Tryz.results24, hcf0, hcf1, go_sem]) rfl ⟨_, by rw [H.out.1, H.out.2.1], by rw [H.out.2.2]; exact ho6, hx6⟩
    · have H := Lib.hid (rot_f (n := n) (l := l) (k := k) (fun h => hk h.2))
      clear hr
      subst hw0
      go_enter Tryz.func24, Tryz.ntmps24
      go_wp2_with (first | (go_at_call 31; refine (rhythmOk_c n l _ _ Hv.out).mono ?_; rintro e w3 ⟨b3, rfl, hb3, hx3⟩; obtain rfl := hb3.2 Hro.out; clear hb3; have hc1 := (Ra.out.ext hx3).c0; have hc2 := (Ra.out.ext hx3).c1; have hd0 := (Rr.out.ext hx3).c0; have hf0 := (Rr.out.ext hx3).f 0; have hd1 := ((Rr.out.ext hx3).set0 (m := 0)).c1; have hf1 := ((Rr.out.ext hx3).set0 (m := 0)).f 1; have Hr := Lib.hid (ret_fin (n := 0) (Rr0.out.ext hx3) (Own.nil _ _) (Nat.le_refl _) (Hx2.out.tr hx3))) | (go_at_call 30; refine (within_t _ ?_).mono ?_; (focus omega); rintro e w1 ⟨rfl, rfl⟩) | (go_at_call 30; refine (within_f _ ?_).mono ?_; (focus omega); rintro e w1 ⟨rfl, rfl⟩))
      have hcf0 := Hr.out.1.c0
      have hcf1 := Hr.out.1.c1
      have hx6 := Hx.out.tr Hr.out.2.2
      simp only [World.size_alloc] at hcf0 hcf1 hx6
      exact bodyPost_ret (v := .tuple #[.agg #[.int .i64 0, .slice none 0 0], .bool false]) (by simp [results, Tryz.results24, hcf0, hcf1, go_sem]) rfl ⟨_, by rw [H.out.1, H.out.2.1], by rw [H.out.2.2]; exact Own.nil _ _, hx6⟩
  · have Hro := Lib.hid hr
    have H := Lib.hid (rot_f (n := n) (l := l) (k := k) (fun h => hr h.1))
    clear hr
    subst hw0
    go_enter Tryz.func24, Tryz.ntmps24
    go_wp2_with (first | (go_at_call 31; refine (rhythmOk_c n l _ _ Hv.out).mono ?_; rintro e w3 ⟨b3, rfl, hb3, hx3⟩; obtain rfl := bool_f hb3 Hro.out; clear hb3; have hd0 := (Rr.out.ext hx3).c0; have hf0 := (Rr.out.ext hx3).f 0; have hd1 := ((Rr.out.ext hx3).set0 (m := 0)).c1; have hf1 := ((Rr.out.ext hx3).set0 (m := 0)).f 1; have Hr := Lib.hid (ret_fin (n := 0) (Rr0.out.ext hx3) (Own.nil _ _) (Nat.le_refl _) (Hx2.out.tr hx3))))
    have hcf0 := Hr.out.1.c0
    have hcf1 := Hr.out.1.c1
    have hx6 := Hx.out.tr Hr.out.2.2
    simp only [World.size_alloc] at hcf0 hcf1 hx6
    exact bodyPost_ret (v := .tuple #[.agg #[.int .i64 0, .slice none 0 0], .bool false]) (by simp [results, Tryz.results24, hcf0, hcf1, go_sem]) rfl ⟨_, by rw [H.out.1, H.out.2.1], by rw [H.out.2.2]; exact Own.nil _ _, hx6⟩
end Go.Proofs.YtjecdmlojgmbeaaGreatDoor
