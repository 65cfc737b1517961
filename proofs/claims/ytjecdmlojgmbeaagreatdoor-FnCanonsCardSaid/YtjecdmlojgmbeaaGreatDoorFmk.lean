/- Contracts: MakeRhythm, MakeOf: a rhythm that is drawn. -/
import Derived.Test.YtjecdmlojgmbeaaGreatDoorFcur
import Derived.Test.YtjecdmlojgmbeaaGreatDoorRhy
namespace Go.Proofs.YtjecdmlojgmbeaaGreatDoor
open Go.RowKit
/-- a rhythm in the making in block rb, beside the cursor b; the result's variable is block q -/
def Mk (w0 w1 w : World) (b : Nat) (v : Value) (len q rb n : Nat) (u : Value) (l : List Int) (k : Nat) : Prop :=
  Cur w0 w b v len ∧ RVar w q 0 (.slice none 0 0) ∧ RVar w rb n u ∧ Own w (rb + 1) u l ∧ (Inc l ∧ ∀ x ∈ l, 0 ≤ x ∧ x < k) ∧ (b ≠ q ∧ b ≠ rb ∧ q < rb ∧ b < rb + 1 ∧ w1.heap.size ≤ rb) ∧ w1.grownBy w (some b)
theorem Mk.step {w0 w1 w w' : World} {b len q rb n k : Nat} {v u : Value} {l : List Int} (h : Mk w0 w1 w b v len q rb n u l k) (hc : Cur w0 w' b v len) (hg : w.grownBy w' (some b)) : Mk w0 w1 w' b v len q rb n u l k := by
  obtain ⟨h1, h2, h3, h4, h5, h6, h7⟩ := h
  refine ⟨hc, h2.kept hg (by simp; omega), h3.kept hg (by simp; omega), h4.kept hg (.inr fun e => by have := (h4.lt b e).1; omega), h5, h6, grownBy_tr h7 hg⟩
theorem Mk.up {w0 w1 w : World} {b len q rb n k : Nat} {v u : Value} {l : List Int} (h : Mk w0 w1 w b v len q rb n u l k) : Mk w0 w1 w b v len q rb n u l (k + 1) := by
  obtain ⟨h1, h2, h3, h4, h5, h6, h7⟩ := h
  exact ⟨h1, h2, h3, h4, ⟨h5.1, fun x hx => by have := h5.2 x hx; omega⟩, h6, h7⟩
theorem inc_app {l : List Int} {k : Nat} (h : Inc l) (hx : ∀ x ∈ l, 0 ≤ x ∧ x < (k : Int)) : Inc (l ++ [(k : Int)]) := by
  unfold Inc at *
  rw [List.pairwise_append]
  refine ⟨h, by simp, fun x hx' y hy => ?_⟩
  simp at hy; subst hy
  exact (hx x hx').2
theorem Mk.app {w0 w1 w w' : World} {b len q rb n k : Nat} {v u u' : Value} {l : List Int} (h : Mk w0 w1 w b v len q rb n u l k) (ho : Own w' (rb + 1) u' (l ++ [(k : Int)])) (hg : w.grownBy w' u.ownBlock) :
    RVar w' rb n u ∧ Mk w0 w1 (w'.setCell ⟨rb, 1, none⟩ u') b v len q rb n u' (l ++ [(k : Int)]) (k + 1) := by
  obtain ⟨h1, h2, h3, h4, h5, h6, h7⟩ := h
  have hlo : ∀ z, u.ownBlock = some z → rb + 1 ≤ z := fun z hz => (h4.lt z hz).1
  have h3' := h3.kept hg (fun e => by have := hlo _ e; omega)
  refine ⟨h3', ?_, ?_, h3'.set1, ho.other (by omega), ⟨inc_app h5.1 h5.2, fun x hx => ?_⟩, h6, ?_⟩
  · have hc := h1.kept hg (fun z hz => by have := hlo z hz; have := h1.2.1; omega)
    obtain ⟨c1, c2, i, z, c3, c4⟩ := hc
    refine ⟨c1.setCell (p := ⟨rb, 1, none⟩) (by have := h1.1.size; have := h7.size; have := h6; have h8 := c2; show w0.heap.size ≤ rb; omega) _, c2, i, z, c3, ?_⟩
    exact c4.far (by simp; omega) _
  · exact (h2.kept hg (fun e => by have := hlo _ e; omega)).other (by omega)
  · rcases List.mem_append.1 hx with h' | h'
    · have := h5.2 x h'; omega
    · simp at h'; subst h'; omega
  · have hg2 := grownBy_set w' rb 1 u'
    have hz := h7.size
    refine ⟨hg2.os.trans (hg.os.trans h7.os), hg2.tape.trans (hg.tape.trans h7.tape), hg2.output.trans (hg.output.trans h7.output), Nat.le_trans h7.size (Nat.le_trans hg.size hg2.size), fun i hi hne => ?_⟩
    rw [hg2.block i (by have := hg.size; omega) (by simp; omega), hg.block i (by omega) (fun e => by have := hlo i e.symm; omega), h7.block i hi hne]
theorem Mk.fin {w0 w1 w : World} {b len q rb n k : Nat} {v u : Value} {l : List Int} (h : Mk w0 w1 w b v len q rb n u l k) (hq : w1.heap.size ≤ q) (h0 : w0.heap.size ≤ q) :
    RVar ((w.setCell ⟨q, 0, none⟩ (.int .i64 n)).setCell ⟨q, 1, none⟩ u) q n u ∧ Own ((w.setCell ⟨q, 0, none⟩ (.int .i64 n)).setCell ⟨q, 1, none⟩ u) (rb + 1) u l ∧ Cur w0 ((w.setCell ⟨q, 0, none⟩ (.int .i64 n)).setCell ⟨q, 1, none⟩ u) b v len ∧ w1.grownBy ((w.setCell ⟨q, 0, none⟩ (.int .i64 n)).setCell ⟨q, 1, none⟩ u) (some b) := by
  obtain ⟨h1, h2, h3, h4, h5, h6, h7⟩ := h
  refine ⟨h2.set0.set1, (h4.other (by omega)).other (by omega), ?_, ?_⟩
  · obtain ⟨c1, c2, i, z, c3, c4⟩ := h1
    exact ⟨(c1.setCell (p := ⟨q, 0, none⟩) h0 _).setCell (p := ⟨q, 1, none⟩) h0 _, c2, i, z, c3, (c4.far (by simp; omega) _).far (by simp; omega) _⟩
  · have ha := grownBy_set w q 0 (.int .i64 n)
    have hb := grownBy_set (w.setCell ⟨q, 0, none⟩ (.int .i64 n)) q 1 u
    have hz := h7.size
    refine ⟨hb.os.trans (ha.os.trans h7.os), hb.tape.trans (ha.tape.trans h7.tape), hb.output.trans (ha.output.trans h7.output), Nat.le_trans h7.size (Nat.le_trans ha.size hb.size), fun i hi hne => ?_⟩
    rw [hb.block i (by have := ha.size; omega) (by simp; omega), ha.block i (by omega) (by simp; omega), h7.block i hi hne]
theorem Mk.size {w0 w1 w : World} {b len q rb n k : Nat} {v u : Value} {l : List Int} (h : Mk w0 w1 w b v len q rb n u l k) : rb + 1 ≤ w.heap.size := h.2.2.1.lt
theorem Mk.len {w0 w1 w : World} {b len q rb n k : Nat} {v u : Value} {l : List Int} (h : Mk w0 w1 w b v len q rb n u l k) : l.length ≤ k := inc_len h.2.2.2.2.1.1 h.2.2.2.2.1.2
def DrawPost (w0 w1 : World) (b : Nat) (v : Value) (len q : Nat) (e : Ending) (w' : World) : Prop := ∃ (n : Nat) (l : List Int) (u : Value), n ≤ q ∧ RhyOk n l ∧ e = .returned (.agg #[.int .i64 n, u]) ∧ Own w' w1.heap.size u l ∧ Cur w0 w' b v len ∧ w1.grownBy w' (some b)
def RhyPost (w : World) (q : Nat) (e : Ending) (w' : World) : Prop := ∃ (n : Nat) (l : List Int) (u : Value), n ≤ q ∧ RhyOk n l ∧ e = .returned (.agg #[.int .i64 n, u]) ∧ Own w' w.heap.size u l ∧ Ext w w'
def OfPost (w : World) (e : Ending) (w' : World) : Prop := ∃ (l : List Int) (u : Value), RhyOk 6 l ∧ e = .returned (.agg #[.int .i64 6, u]) ∧ Own w' w.heap.size u l ∧ Ext w w'
set_option maxRecDepth 100000 in
set_option maxHeartbeats 4000000 in
theorem makeOf_c (l : List Int) (s : Nat) (v : Value) (w : World) (hv : Byts w v l) (hs : s ≤ 1000) : Calls Tryz.prog 19 #[v, .int .i64 s, .int .i64 6] w (OfPost w) := by
  have hx0 := one_box w (.cells #[.int .i64 0, .slice none 0 0] 25)
  have Hv0 := Lib.hid hv
  have Hv := Lib.hid (hv.ext hx0)
  have Hq := Lib.hid (RVar.new (T := 25) w 0 (.slice none 0 0))
  have HX := Lib.hid hx0
  clear hv hx0
  go_enter Tryz.func19, Tryz.ntmps19
  go_wp2_with (first | (go_at_call 22; refine (l31New_c l s _ _ Hv.out (by omega)).mono ?_; rintro e w2 ⟨bw2, rfl, hcw2⟩; (have hbq : w.heap.size + 1 ≤ bw2 := (by have := hcw2.2.1; simpa using this); have hbq2 := hcw2.1.size)))
  have hbl : bw2 < w2.heap.size := by obtain ⟨_, _, _, _, _, h⟩ := hcw2; exact h.lt
  have HM : Hid (Mk w w2 (w2.alloc (.cells #[.int .i64 6, .slice none 0 0] 25)) bw2 v l.length w.heap.size w2.heap.size 6 (.slice none 0 0) [] 0) := by
    refine ⟨⟨HX.out.tr (hcw2.1.tr (one_box w2 _)), by omega, ?_⟩, (Hq.out.ext hcw2.1).ext (one_box w2 _), RVar.new w2 6 _, Own.nil _ _, ⟨by simp [Inc], fun x hx => by simp at hx⟩, by rw [World.size_alloc] at hbq2; omega, grownBy_of_ext (one_box w2 _) _⟩
    obtain ⟨_, _, i, z, h1, h2⟩ := hcw2
    exact ⟨i, z, h1, h2.ext (one_box w2 _)⟩
  clear hcw2
  go_loopw [9] (fun i wr => ∃ (k : Nat) (u : Value) (r : List Int), k ≤ 6 ∧ i = .int .i64 k ∧ Hid (Mk w w2 wr bw2 v l.length w.heap.size w2.heap.size 6 u r k)) (fun i _ => 6 - (intOf i).toNat)
  case atStart => exact ⟨0, _, [], Nat.zero_le _, rfl, HM.out⟩
  case round =>
    obtain ⟨k, u, r, hk, rfl, hr⟩ := hrel
    have hll := hr.out.len
    have hc0 : wr.cell? ⟨w2.heap.size, 0, none⟩ = some (.int .i64 6) := hr.out.2.2.1.c0
    by_cases hkn : k < 6
    · have hkni : (k : Int) < 6 := by omega
      go_wp2_with (first | (go_at_call 35; refine (l01Once_c l 2 _ _ _ _ Hv0.out hr.out.1 (by omega)).mono ?_; rintro e w3 ⟨y, rfl, hcw3, hgw3⟩; (have H3 := Lib.hid (hr.out.step hcw3 hgw3); obtain ⟨Au, nu, cu, rfl⟩ := H3.out.2.2.2.1.form; have hc1 := H3.out.2.2.1.c1; have hz := H3.out.size; clear hcw3 hgw3 hc0; cases y)) | (at_builtin; refine wp_append1 rfl (.tmp 26) (.tmp 28) rfl rfl rfl H3.out.2.2.2.1 (by unfold I64; omega) (by omega) hz ?_; intro v' w' ho hg hb hat; obtain ⟨Av, nv, cv, rfl⟩ := ho.form; have Hr := Lib.hid (H3.out.app ho hg); have hc := Hr.out.1.c1; have hf := Hr.out.1.f 1))
      all_goals
        go_roundw
        case rel => first | exact ⟨k + 1, _, _, by omega, by go_num, Hr.out.2⟩ | exact ⟨k + 1, _, _, by omega, by go_num, H3.out.up⟩
        case measure => simp [intOf]; omega
    · obtain rfl : k = 6 := by omega
      obtain ⟨Au, nu, cu, rfl⟩ := hr.out.2.2.2.1.form
      have hc1 := hr.out.2.2.1.c1
      have hd0 := hr.out.2.1.c0
      have hf0 := hr.out.2.1.f 0
      have hd1 := (hr.out.2.1.set0 (m := 6)).c1
      have hf1 := (hr.out.2.1.set0 (m := 6)).f 1
      have Hr := Lib.hid (ret_fin (n := 6) hr.out.2.1 hr.out.2.2.2.1 (by rw [World.size_alloc] at hbq2; omega) hr.out.1.1)
      have Hok : Hid (RhyOk 6 r) := ⟨by omega, hr.out.2.2.2.2.1.1, hr.out.2.2.2.2.1.2⟩
      go_wp2
      have hcf0 := Hr.out.1.c0
      have hcf1 := Hr.out.1.c1
      exact bodyPost_ret (v := .agg #[.int .i64 6, .slice Au nu cu]) (by simp [results, Tryz.results19, hcf0, hcf1, go_sem]) rfl ⟨r, _, Hok.out, rfl, Hr.out.2.1, Hr.out.2.2⟩
end Go.Proofs.YtjecdmlojgmbeaaGreatDoor
