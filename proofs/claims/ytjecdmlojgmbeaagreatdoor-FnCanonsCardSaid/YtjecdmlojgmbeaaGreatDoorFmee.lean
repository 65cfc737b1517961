/- Contracts: slices.Contains, has; MeetingsOf and FirstMeeting on both sides. -/
import Derived.Test.YtjecdmlojgmbeaaGreatDoorFpol
import Derived.Test.YtjecdmlojgmbeaaGreatDoorFmap
import Derived.Lib.SliceRun
namespace Go.Proofs.YtjecdmlojgmbeaaGreatDoor
open Go.RowKit
theorem ext_drewN' {w w' : World} {n : Nat} (h : Ext (w.drewN n) w') : Ext w w' := ⟨h.os, h.tape, h.output, h.size, h.block⟩
theorem Own.sub {w : World} {B g n c q : Nat} {l : List Int} (h : Own w B (.slice (some ⟨g, 0, none⟩) n c) l) (hq : q ≤ l.length) : Own w B (.slice (some ⟨g, 0, none⟩) q c) (l.take q) := by
  have hn := h.n_eq
  subst hn
  obtain ⟨⟨h1, h2⟩, hr⟩ := h
  refine ⟨⟨by simp, ?_⟩, fun x hx => hr x (List.mem_of_mem_take hx)⟩
  rcases h2 with ⟨h2, _⟩ | ⟨g', cap, cur, hv, hb, hg, hnc, hcm, hcs, htake⟩
  · cases h2
  · simp only [Value.slice.injEq, Option.some.injEq, Addr.mk.injEq] at hv
    obtain ⟨⟨rfl, _⟩, _, rfl⟩ := hv
    refine .inr ⟨g, c, cur, by rw [List.length_take, Nat.min_eq_left hq], hb, hg, by rw [List.length_take]; omega, hcm, hcs, ?_⟩
    rw [List.length_take, Nat.min_eq_left hq, Nat.mul_one, List.map_take, ← htake, List.take_take, Nat.mul_one, Nat.min_eq_left hq]
theorem Own.zeros {B g n c : Nat} : ∀ (m o : Nat) (w : World) (l : List Int), Own w B (.slice (some ⟨g, 0, none⟩) n c) l →
    ∃ l' : List Int, l'.length = l.length ∧ l'.take o = l.take o ∧ Own (w.setCells g o (List.replicate m (.int .i64 0))) B (.slice (some ⟨g, 0, none⟩) n c) l' ∧ w.grownBy (w.setCells g o (List.replicate m (.int .i64 0))) (some g)
  | 0, o, w, l, h => ⟨l, rfl, rfl, h, World.grownBy.refl _ _⟩
  | m + 1, o, w, l, h => by
    obtain ⟨h1, h2⟩ := h.stored o (x := 0) (by unfold I64; omega)
    obtain ⟨l', e1, e2, e3, e4⟩ := Own.zeros m (o + 1) _ _ h1
    refine ⟨l', by rw [e1, List.length_set], ?_, e3, grownBy_tr h2 e4⟩
    have := congrArg (List.take o) e2
    rw [List.take_take, List.take_take, Nat.min_eq_left (by omega)] at this
    rw [this, List.take_set_of_le (Nat.le_refl _)]
theorem slContains_c (l : List Int) (x : Int) (v : Value) (w : World) (hv : Ints w v l) : Calls Tryz.prog 45 #[v, .int .i64 x] w fun e w' => e = .returned (.bool (decide (x ∈ l))) ∧ w' = w := by
  by_cases hl : l.length = 0
  · have h0 : l = [] := List.eq_nil_of_length_eq_zero hl
    subst h0
    obtain ⟨A, c, rfl, _, _⟩ := hv.form0
    exact (Tryz.slices_Contains_int_empty A c x w).mono fun e w' ⟨he, hw⟩ => ⟨by rw [he]; simp, hw⟩
  obtain ⟨ad, c, rfl, _, _⟩ := hv.form (by omega)
  obtain ⟨b, o, rfl, hc⟩ := hv.plain (by omega)
  refine (Tryz.slices_Contains_int b o l.length c l x w (Nat.le_refl _) hv.len hc).mono fun e w' ⟨he, hw⟩ => ⟨?_, hw⟩
  rw [List.take_length] at he
  rw [he]; simp
set_option maxRecDepth 100000 in
theorem has_c (n : Nat) (l : List Int) (k : Int) (v : Value) (w : World) (hv : Ints w v l) (hn : 1 ≤ n ∧ n ≤ 1000) : Calls Tryz.prog 32 #[.agg #[.int .i64 n, v], .int .i64 k] w (RB (k % n ∈ l) w) := by
  obtain ⟨A, c, hve, _, _⟩ := hv.form0
  obtain ⟨m, hm⟩ : ∃ m, m = l.length := ⟨_, rfl⟩
  rw [← hm] at hve
  subst hve
  have hx := one_box w (.cells #[.int .i64 n, .slice A m c] 25)
  have ha := RVar.new (T := 25) w n (.slice A m c)
  have Hv := Lib.hid (hv.ext hx)
  have Hx := Lib.hid hx
  have Ra := Lib.hid ha
  clear hv hx hm ha
  have hc1 := Ra.out.c0
  have hc2 := Ra.out.c1
  obtain ⟨y, hy⟩ : ∃ y, k % (n : Int) = y := ⟨_, rfl⟩
  obtain ⟨b, hb⟩ : ∃ b, b = decide (y ∈ l) := ⟨_, rfl⟩
  have Hb := Lib.hid hb
  have HR : Hid (∀ w', Calls Tryz.prog 46 #[.int .i64 k, .int .i64 n] w' fun e w'' => e = .returned (.int .i64 y) ∧ w'' = w') := fun w' => (remainder_c k n w' hn.1 (by omega)).mono fun e w'' ⟨he, hw⟩ => ⟨by rw [he, hy], hw.symm⟩
  have HC : Hid (∀ w', Ints w' (.slice A m c) l → Calls Tryz.prog 45 #[.slice A m c, .int .i64 y] w' fun e w'' => e = .returned (.bool b) ∧ w'' = w') := fun w' h => by rw [hb]; exact slContains_c l y _ w' h
  have Hy := Lib.hid hy
  clear hy hb
  go_enter Tryz.func32, Tryz.ntmps32
  go_wp2
  go_quiet (first | (go_at_call 46; exact Calls.quiet_of_same (HR.out _)) | (go_at_call 45; exact Calls.quiet_of_same (HC.out _ (Hv.out.drewN _))))
  go_wp2
  go_ret
  exact ⟨b, rfl, by rw [Hb.out, Hy.out]; simp, below_drewN Hx.out _⟩
end Go.Proofs.YtjecdmlojgmbeaaGreatDoor
