/- Contract: MakePattern: one of the patterns of a list. -/
import Derived.Test.YtpnbcgnbkanebaaDoorFcur
import Derived.Test.YtpnbcgnbkanebaaDoorPats
namespace Go.Proofs.YtpnbcgnbkanebaaDoor
open Go.RowKit
theorem own_litP (w : World) (l : List Int) {B : Nat} (hB : B ≤ w.heap.size) (hl : l.length ≤ 1000) (hr : ∀ x ∈ l, I64 x) : Own (w.alloc (.cells (l.map (Value.int .i64)).toArray 3)) B (.slice (some ⟨w.heap.size, 0, none⟩) l.length l.length) l := by
  have h := World.ownsRow_lit (e := 3) (size := 1) w (l.map (Value.int .i64)).toArray l.length hB (by unfold maxLen; omega) (by simp)
  exact ⟨by simpa using h, hr⟩
theorem lastI_snoc (l : List Int) (x : Int) : lastI (l ++ [x]) = x := by simp [lastI]
theorem patUp_pats {k : Nat} {p : List Int} (hk : k ≤ 3) (h : p ∈ patUp k) : p ∈ pats := by
  unfold pats
  have hc : k = 0 ∨ k = 1 ∨ k = 2 ∨ k = 3 := by omega
  rcases hc with rfl | rfl | rfl | rfl <;> simp [h]
theorem patUp_next {k r : Nat} {p : List Int} (h : p ∈ patUp k) (hr : r < 4) : p ++ [lastI p + 1 + (r : Int)] ∈ patUp (k + 1) := by
  rw [patUp, List.mem_flatMap]
  refine ⟨p, h, ?_⟩
  unfold patGrow
  have hc : r = 0 ∨ r = 1 ∨ r = 2 ∨ r = 3 := by omega
  rcases hc with rfl | rfl | rfl | rfl <;> simp
theorem pat_last {p : List Int} (h : p ∈ pats) : 0 ≤ lastI p ∧ lastI p ≤ 12 := (pats_ok h).at_ (lastI_get (pats_ok h).1)
theorem pat_len {p : List Int} (h : p ∈ pats) : p.length ≤ 13 := (pats_ok h).len.2
def PatPost (w0 : World) (e : Ending) (w' : World) : Prop := ∃ v' p, e = .returned v' ∧ p ∈ pats ∧ Own w' w0.heap.size v' p ∧ Ext w0 w'
theorem patGood_fin {w0 w : World} {b n : Nat} {v : Value} (p : List Int) (hp : p ∈ patsGood) (hc : Cur w0 w b v n) : PatPost w0 (.returned (.slice (some ⟨w.heap.size, 0, none⟩) p.length p.length)) (w.alloc (.cells (p.map (Value.int .i64)).toArray 3)) := by
  have hm : p ∈ pats := List.mem_append_left _ hp
  refine ⟨_, p, rfl, hm, own_litP w p hc.1.size (by have := pat_len hm; omega) fun x hx => ?_, hc.1.tr ((Below.refl _ _).alloc (Nat.le_refl _) _)⟩
  have := (pats_ok hm).mem hx
  unfold I64; omega
set_option maxRecDepth 100000 in
set_option maxHeartbeats 1000000 in
theorem l13Good_c (l : List Int) (v : Value) (w0 w : World) (b : Nat) (hv : Byts w0 v l) (hc : Cur w0 w b v l.length) : Calls Tryd.prog 44 #[.pointer (some ⟨b, 0, none⟩)] w (PatPost w0) := by
  have Hv := Lib.hid hv
  have Hc := Lib.hid hc
  clear hv hc
  go_enter Tryd.func44, Tryd.ntmps44
  go_wp2_with (first | (go_at_call 45; refine (l01Below_c l 5 _ _ _ _ Hv.out Hc.out (by omega)).mono ?_; rintro e w2 ⟨x, hlx, rfl, hcw2, hgw2⟩; (rcases (show x = 0 ∨ x = 1 ∨ x = 2 ∨ x = 3 ∨ x = 4 by omega) with rfl | rfl | rfl | rfl | rfl)))
  all_goals
    go_ret
    first
      | exact patGood_fin [0, 2] (by decide) hcw2
      | exact patGood_fin [0, 1, 4, 5] (by decide) hcw2
      | exact patGood_fin [0, 3, 6] (by decide) hcw2
      | exact patGood_fin [0, 1, 2, 6, 7, 8] (by decide) hcw2
      | exact patGood_fin [0, 4, 8] (by decide) hcw2
set_option maxRecDepth 100000 in
set_option maxHeartbeats 1000000 in
theorem l13Draw_c (l : List Int) (v : Value) (w0 w : World) (b : Nat) (hv : Byts w0 v l) (hc : Cur w0 w b v l.length) : Calls Tryd.prog 33 #[.pointer (some ⟨b, 0, none⟩)] w (PatPost w0) := by
  have Hv := Lib.hid hv
  have Hc := Lib.hid hc
  clear hv hc
  go_enter Tryd.func33, Tryd.ntmps33
  go_wp2_with (first | (go_at_call 43; refine (l01Once_c l 3 _ _ _ _ Hv.out Hc.out (by omega)).mono ?_; rintro e w2 ⟨x, rfl, hcw2, hgw2⟩; (cases x)) | (go_at_call 44; refine (l13Good_c l v w0 _ b Hv.out hcw2).mono ?_; rintro e w3 ⟨v3, p3, rfl, hp3, ho3, hx3⟩) | (go_at_call 45; refine (l01Below_c l 4 v w0 _ b Hv.out (hcw2.ext ((Below.refl _ _).alloc (Nat.le_refl _) (.cells #[.int .i64 0] 3))) (by omega)).mono ?_; rintro e w4 ⟨n0, hn0, rfl, hc4, hg4⟩))
  · have Ho0 : Hid (Own w4 (b + 1) (.slice (some ⟨w2.heap.size, 0, none⟩) 1 1) [0]) := by
      have hb2 : b < w2.heap.size := by obtain ⟨_, _, _, _, _, hb⟩ := hcw2; exact hb.lt
      exact (own_litP w2 [0] (B := b + 1) hb2 (by decide) (by intro x hx; simp at hx; subst hx; unfold I64; omega)).kept hg4 (.inr (by simp [Value.ownBlock]; omega))
    go_loopw [3, 4, 5] (fun o xx i wr => ∃ (k m : Nat) (p : List Int), k + m = n0 ∧ p ∈ patUp k ∧ i = .int .i64 m ∧ xx = .int .i64 (lastI p) ∧ Hid (Own wr (b + 1) o p ∧ Cur w0 wr b v l.length)) (fun _ _ i _ => (intOf i).toNat)
    case atStart => exact ⟨0, n0, [0], by omega, by simp [patUp], rfl, rfl, Ho0.out, hc4⟩
    case round =>
      obtain ⟨k, m, p, hkm, hp, rfl, rfl, hr⟩ := hrel
      have hk3 : k ≤ 3 := by omega
      have hpp := patUp_pats hk3 hp
      have hlast := pat_last hpp
      have hlen := pat_len hpp
      obtain ⟨z, hz⟩ : ∃ z, lastI p = z := ⟨_, rfl⟩
      rw [hz] at hlast
      have Hz := Lib.hid hz
      rw [hz]
      clear hz
      by_cases hm0 : 0 < m
      · have hm2 : (0 : Int) < (m : Int) := by omega
        have hbw : b + 1 ≤ wr.heap.size := by obtain ⟨_, _, _, _, _, hb⟩ := hr.out.2; exact hb.lt
        go_wp2_with (first | (go_at_call 45; refine (l01Below_c l 4 _ _ _ _ Hv.out hr.out.2 (by omega)).mono ?_; rintro e w5 ⟨r, hlr, rfl, hcw5, hgw5⟩; (have Ho5 : Hid (Own w5 (b + 1) u3 p) := hr.out.1.kept hgw5 (.inr (fun e => by have := (hr.out.1.lt b e).1; omega)))) | (at_builtin; refine wp_append1 rfl (.tmp 22) (.tmp 24) rfl rfl rfl Ho5.out (by unfold I64; omega) (by omega) (by have := hgw5.size; omega) ?_; intro v' w' ho hg hb hat))
        go_roundw
        case rel =>
          refine ⟨k + 1, m - 1, _, by omega, patUp_next hp hlr, by go_num, by rw [lastI_snoc, Hz.out], by rw [Hz.out]; exact ho, hcw5.kept hg fun q hq => ?_⟩
          have h1 := (Ho5.out.lt q hq).1
          have h2 := hcw5.2.1
          omega
        case measure => simp [intOf]; omega
      · have hm2 : ¬ (0 : Int) < (m : Int) := by omega
        go_wp2
        go_ret
        exact ⟨_, p, rfl, hpp, hr.out.1.base (by have := hr.out.2.2.1; omega), hr.out.2.1⟩
  · go_ret
    exact ⟨v3, p3, rfl, hp3, ho3, hx3⟩
set_option maxRecDepth 100000 in
theorem makePattern_c (l : List Int) (q : Nat) (v : Value) (w : World) (hv : Byts w v l) (hq : q ≤ 1000) : Calls Tryd.prog 12 #[v, .int .i64 q] w (PatPost w) := by
  have Hv := Lib.hid hv
  clear hv
  go_enter Tryd.func12, Tryd.ntmps12
  go_wp2_with (first | (go_at_call 34; refine (l31New_c l q _ _ Hv.out (by omega)).mono ?_; rintro e w2 ⟨bw2, rfl, hcw2⟩) | (go_at_call 33; refine (l13Draw_c l v w _ bw2 Hv.out hcw2).mono ?_; rintro e w3 ⟨v3, p3, rfl, hp3, ho3, hx3⟩))
  go_ret
  exact ⟨v3, p3, rfl, hp3, ho3, hx3⟩
end Go.Proofs.YtpnbcgnbkanebaaDoor
