/- Contracts: LineTiling on both sides. -/
import Derived.Test.YtkdodbhkobefiaaDoorFlea
import Derived.Test.YtkdodbhkobefiaaDoorFrot
import Derived.Test.YtkdodbhkobefiaaDoorFof
namespace Go.Proofs.YtkdodbhkobefiaaDoor
open Go.RowKit
/-- What a call leaves that hands back two rhythms and a Bool. -/
def RR2B (n : Int) (l : List Int) (m : Int) (r : List Int) (b : Bool) (w : World) (e : Ending) (w' : World) : Prop :=
  ∃ v u, e = .returned (.tuple #[.agg #[.int .i64 n, v], .agg #[.int .i64 m, u], .bool b]) ∧ Own w' w.heap.size v l ∧ Own w' w.heap.size u r ∧ Apart v u ∧ Ext w w'
theorem Ext.setAt2 {w a : World} (h : Ext w a) (b k : Nat) (x : Value) (hb : w.heap.size ≤ b) : Ext w (a.setCell ⟨b, k, none⟩ x) := Below.setCell h hb x
theorem ret2_fin {w wr : World} {B b c : Nat} {n m n0 m0 : Int} {u0 u1 v u : Value} {l r : List Int} (h1 : RVar wr b n0 u0) (h2 : RVar wr c m0 u1) (ho : Own wr B v l) (hp : Own wr B u r) (hb : b < B) (hc : c < B) (hne : b ≠ c) (hx : Ext w wr) (hwb : w.heap.size ≤ b) (hwc : w.heap.size ≤ c) :
    RVar ((((wr.setCell ⟨b, 0, none⟩ (.int .i64 n)).setCell ⟨b, 1, none⟩ v).setCell ⟨c, 0, none⟩ (.int .i64 m)).setCell ⟨c, 1, none⟩ u) b n v ∧
    RVar ((((wr.setCell ⟨b, 0, none⟩ (.int .i64 n)).setCell ⟨b, 1, none⟩ v).setCell ⟨c, 0, none⟩ (.int .i64 m)).setCell ⟨c, 1, none⟩ u) c m u ∧
    Own ((((wr.setCell ⟨b, 0, none⟩ (.int .i64 n)).setCell ⟨b, 1, none⟩ v).setCell ⟨c, 0, none⟩ (.int .i64 m)).setCell ⟨c, 1, none⟩ u) B v l ∧
    Own ((((wr.setCell ⟨b, 0, none⟩ (.int .i64 n)).setCell ⟨b, 1, none⟩ v).setCell ⟨c, 0, none⟩ (.int .i64 m)).setCell ⟨c, 1, none⟩ u) B u r ∧
    Ext w ((((wr.setCell ⟨b, 0, none⟩ (.int .i64 n)).setCell ⟨b, 1, none⟩ v).setCell ⟨c, 0, none⟩ (.int .i64 m)).setCell ⟨c, 1, none⟩ u) :=
  ⟨((h1.set0.set1).other hne).other hne, ((h2.other (fun e => hne e.symm)).other (fun e => hne e.symm)).set0.set1, (((ho.other hb).other hb).other hc).other hc, (((hp.other hb).other hb).other hc).other hc, (((hx.setAt2 b 0 _ hwb).setAt2 b 1 _ hwb).setAt2 c 0 _ hwc).setAt2 c 1 _ hwc⟩
theorem Apart.rowT {v u : Value} (h : Apart v u) : u.ownBlock = none ∨ u.ownBlock ≠ v.ownBlock := by
  rcases h with h | h
  · rw [h]; cases u.ownBlock <;> simp
  · exact .inr fun e => h e.symm
theorem remL_id2 {n : Nat} {l : List Int} (h : ∀ x ∈ l, 0 ≤ x ∧ x < n) : remL n l = l := by
  unfold remL
  conv => rhs; rw [← List.map_id l]
  apply List.map_congr_left
  intro x hx
  have := h x hx
  simp only [id]
  exact Int.emod_eq_of_lt this.1 this.2
def ltOk (l : List Int) : Prop := (outc l).1 = true ∧ (outc l).2.1 ≤ 24
instance (l : List Int) : Decidable (ltOk l) := by unfold ltOk; infer_instance
def ltB (l : List Int) : Bool := decide (ltOk l)
def ltN (l : List Int) : Int := if ltOk l then ((outc l).2.1 : Nat) else 0
def ltP (l : List Int) : List Int := if ltOk l then rhL (outc l).2.1 (remL (outc l).2.1 l) else []
def ltE (l : List Int) : List Int := if ltOk l then rhL (outc l).2.1 (esI (outc l).2.2) else []
theorem lt_t {l : List Int} {p : Nat} {es : List Nat} (ho : outc l = (true, p, es)) (hp : p ≤ 24) : ltB l = true ∧ ltN l = p ∧ ltP l = rhL p (remL p l) ∧ ltE l = rhL p (esI es) := by
  have h : ltOk l := by unfold ltOk; rw [ho]; exact ⟨rfl, hp⟩
  unfold ltB ltN ltP ltE; rw [if_pos h, if_pos h, if_pos h, ho]; exact ⟨by simpa using h, rfl, rfl, rfl⟩
theorem lt_f {l : List Int} (h : ¬ ltOk l) : ltB l = false ∧ ltN l = 0 ∧ ltP l = [] ∧ ltE l = [] := by
  unfold ltB ltN ltP ltE; rw [if_neg h, if_neg h, if_neg h]; exact ⟨by simpa using h, rfl, rfl, rfl⟩
theorem lt_len (l : List Int) : (ltP l).length ≤ 1000000 ∧ (ltE l).length ≤ 1000000 := by
  by_cases h : ltOk l
  · unfold ltP ltE
    rw [if_pos h, if_pos h]
    have h1 := rhL_len (outc l).2.1 (remL (outc l).2.1 l)
    have h2 := rhL_len (outc l).2.1 (esI (outc l).2.2)
    have := h.2
    omega
  · rw [(lt_f h).2.2.1, (lt_f h).2.2.2]; simp
set_option maxRecDepth 100000 in
set_option maxHeartbeats 2000000 in
theorem lineTiling_c (l : List Int) (v : Value) (w : World) (hv : Ints w v l) : Calls Tryd.prog 13 #[v] w (RR2B (ltN l) (ltP l) (ltN l) (ltE l) (ltB l) w) := by
  have hx1 := one_box w (.cells #[.int .i64 0, .slice none 0 0] 31)
  have hx2 := one_box (w.alloc (.cells #[.int .i64 0, .slice none 0 0] 31)) (.cells #[.int .i64 0, .slice none 0 0] 31)
  have ha := (RVar.new (T := 31) w 0 (.slice none 0 0)).ext hx2
  have hb : RVar ((w.alloc (.cells #[.int .i64 0, .slice none 0 0] 31)).alloc (.cells #[.int .i64 0, .slice none 0 0] 31)) (w.heap.size + 1) 0 (.slice none 0 0) := by
    simpa only [World.size_alloc] using RVar.new (T := 31) (w.alloc (.cells #[.int .i64 0, .slice none 0 0] 31)) 0 (.slice none 0 0)
  have hne : w.heap.size + 1 ≠ w.heap.size := by omega
  obtain ⟨A, c, hve, _, _⟩ := hv.form0
  obtain ⟨k, hk⟩ : ∃ k, k = l.length := ⟨_, rfl⟩
  rw [← hk] at hve
  subst hve
  have Hv := Lib.hid ((hv.ext hx1).ext hx2)
  have Hx := Lib.hid (hx1.tr hx2)
  have Ha := Lib.hid ha
  have Hb := Lib.hid hb
  clear hv hx1 hx2 ha hb hk
  obtain ⟨b0, hb0⟩ : ∃ b, b = (outc l).1 := ⟨_, rfl⟩
  obtain ⟨p, hp⟩ : ∃ p, p = (outc l).2.1 := ⟨_, rfl⟩
  obtain ⟨es, hes⟩ : ∃ es, es = (outc l).2.2 := ⟨_, rfl⟩
  have ho : outc l = (b0, p, es) := by rw [hb0, hp, hes]
  have Ho : Hid ((outc l).1 = b0 ∧ (outc l).2.1 = p ∧ (outc l).2.2 = es) := ⟨hb0.symm, hp.symm, hes.symm⟩
  have hbd := outc_bound l
  rw [← hp, ← hes] at hbd
  clear hb0 hp hes
  by_cases hok : b0 = true ∧ p ≤ 24
  · obtain ⟨rfl, hp24⟩ := hok
    have hp1 : 1 ≤ p := (outc_run ho).2.1
    have H := Lib.hid (lt_t ho hp24)
    have hl13 : l.length ≤ 13 := (outc_run ho).1.len.2
    have Hl13 := Lib.hid hl13
    have Hel : Hid ((esI es).length ≤ 4097) := by unfold Hid; rw [esI_len]; exact hbd.2
    have Hes : Hid (remL p (esI es) = esI es) := by
      unfold Hid
      refine remL_id2 fun x hx => ?_
      unfold esI at hx
      rw [List.mem_map] at hx
      obtain ⟨e, he, rfl⟩ := hx
      have := outc_lt ho e he
      omega
    clear ho hl13
    go_enter Tryd.func13, Tryd.ntmps13
    go_wp2_with (first | (go_at_call 19; refine (block_c l _ _ Hv.out).mono ?_; rintro e w3 ⟨v3, rfl, ho3, hx3⟩; (rw [Ho.out.1, Ho.out.2.1]; rw [Ho.out.2.2] at ho3)))
    have tok : True := trivial
    go_wp2_with (first | (go_at_call 23; clear tok; refine (rhythmOf_c p l _ _ (Hv.out.ext hx3) hp1 (by omega) (by have := Hl13.out; omega)).mono ?_; rintro e w4 ⟨v4, rfl, ho4, hx4⟩; obtain ⟨A4, n4, c4, rfl⟩ := ho4.form))
    have tok : True := trivial
    go_wp2_with (first | (go_at_call 23; clear tok; refine (rhythmOf_c p (esI es) _ _ (ho3.ext hx4).ints hp1 (by omega) (by have := Hel.out; omega)).mono ?_; rintro e w5 ⟨v5, rfl, ho5, hx5⟩; rw [Hes.out] at ho5; obtain ⟨A5, n5, c5, rfl⟩ := ho5.form; have X5 := Lib.hid (hx3.tr (hx4.tr hx5)); have R1 := Lib.hid (Ha.out.ext X5.out); have R2 := Lib.hid (((Hb.out.ext X5.out).other (k := 0) (u := .int .i64 (p : Int)) hne).other (k := 1) (u := .slice A4 n4 c4) hne); have d0 := R1.out.c0; have f0 := R1.out.f 0; have d1 := (R1.out.set0 (m := (p : Int))).c1; have f1 := (R1.out.set0 (m := (p : Int))).f 1; have e0 := R2.out.c0; have g0 := R2.out.f 0; have e1 := (R2.out.set0 (m := (p : Int))).c1; have g1 := (R2.out.set0 (m := (p : Int))).f 1))
    have hz3 : w.heap.size + 1 + 1 ≤ w3.heap.size := by have := hx3.size; simp only [World.size_alloc] at this; exact this
    have hz4 := hx4.size
    have Hap : Hid (Apart (.slice A4 n4 c4) (.slice A5 n5 c5)) := Own.apart ho4 ho5
    have Fin := Lib.hid (ret2_fin (n := (p : Int)) (m := (p : Int)) (B := w3.heap.size) R1.out (Hb.out.ext X5.out) (ho4.ext hx5) (ho5.base hz4) (by omega) (by omega) (by omega) (Hx.out.tr X5.out) (Nat.le_refl _) (by omega))
    have q0 := Fin.out.1.c0
    have q1 := Fin.out.1.c1
    have q2 := Fin.out.2.1.c0
    have q3 := Fin.out.2.1.c1
    exact bodyPost_ret (v := .tuple #[.agg #[.int .i64 p, .slice A4 n4 c4], .agg #[.int .i64 p, .slice A5 n5 c5], .bool true]) (by simp [results, Tryd.results13, q0, q1, q2, q3, go_sem]) rfl ⟨_, _, by rw [H.out.1, H.out.2.1], by rw [H.out.2.2.1]; exact Fin.out.2.2.1.base (by omega), by rw [H.out.2.2.2]; exact Fin.out.2.2.2.1.base (by omega), Hap.out, Fin.out.2.2.2.2⟩
  · have H := Lib.hid (lt_f (l := l) (fun h => hok ⟨by rw [← h.1]; exact Ho.out.1.symm, by rw [← Ho.out.2.1]; exact h.2⟩))
    have hcase : b0 = false ∨ (b0 = true ∧ 24 < p) := by
      cases b0
      · exact .inl rfl
      · exact .inr ⟨rfl, by have : ¬ p ≤ 24 := fun h => hok ⟨rfl, h⟩; omega⟩
    clear hok ho
    rcases hcase with rfl | ⟨rfl, hp24⟩
    all_goals
      go_enter Tryd.func13, Tryd.ntmps13
      go_wp2_with (first | (go_at_call 19; refine (block_c l _ _ Hv.out).mono ?_; rintro e w3 ⟨v3, rfl, ho3, hx3⟩; (rw [Ho.out.1, Ho.out.2.1]; have R1 := Lib.hid (Ha.out.ext hx3); have R2 := Lib.hid (((Hb.out.ext hx3).other (k := 0) (u := .int .i64 0) hne).other (k := 1) (u := .slice none 0 0) hne); have d0 := R1.out.c0; have f0 := R1.out.f 0; have d1 := (R1.out.set0 (m := 0)).c1; have f1 := (R1.out.set0 (m := 0)).f 1; have e0 := R2.out.c0; have g0 := R2.out.f 0; have e1 := (R2.out.set0 (m := 0)).c1; have g1 := (R2.out.set0 (m := 0)).f 1)))
      have Fin := Lib.hid (ret2_fin (n := 0) (m := 0) (B := w.heap.size + 2) R1.out (Hb.out.ext hx3) (Own.nil _ _) (Own.nil _ _) (by omega) (by omega) (by omega) (Hx.out.tr hx3) (Nat.le_refl _) (by omega))
      have q0 := Fin.out.1.c0
      have q1 := Fin.out.1.c1
      have q2 := Fin.out.2.1.c0
      have q3 := Fin.out.2.1.c1
      exact bodyPost_ret (v := .tuple #[.agg #[.int .i64 0, .slice none 0 0], .agg #[.int .i64 0, .slice none 0 0], .bool false]) (by simp [results, Tryd.results13, q0, q1, q2, q3, go_sem]) rfl ⟨_, _, by rw [H.out.1, H.out.2.1], by rw [H.out.2.2.1]; exact Own.nil _ _, by rw [H.out.2.2.2]; exact Own.nil _ _, .inl rfl, Fin.out.2.2.2.2⟩
end Go.Proofs.YtkdodbhkobefiaaDoor
