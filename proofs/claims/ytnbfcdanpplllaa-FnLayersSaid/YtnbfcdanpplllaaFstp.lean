/- Contracts: the steps of a rhythm, on both sides. -/
import Derived.Test.YtnbfcdanpplllaaFrok
namespace Go.Proofs.Ytnbfcdanpplllaa
open Go.RowKit
def stepAt (n : Int) (l : List Int) (i : Nat) : Int := (if i + 1 < l.length then l.getD (i + 1) 0 else l.getD 0 0 + n) - l.getD i 0
def stepN (n : Int) (l : List Int) (i : Nat) : List Int := (List.range i).map (stepAt n l)
def stepsL (n : Int) (l : List Int) : List Int := stepN n l l.length
theorem stepN_len (n : Int) (l : List Int) (i : Nat) : (stepN n l i).length = i := by simp [stepN]
theorem stepN_succ (n : Int) (l : List Int) (i : Nat) : stepN n l (i + 1) = stepN n l i ++ [stepAt n l i] := by simp [stepN, List.range_succ]
theorem stepAt_mid {n : Int} {l : List Int} {i : Nat} {x y : Int} (hx : l[i]? = some x) (hy : l[i + 1]? = some y) : stepAt n l i = y - x := by
  unfold stepAt
  rw [if_pos (List.getElem?_eq_some_iff.1 hy).1, getD_of hx, getD_of hy]
theorem stepAt_end {n : Int} {l : List Int} {i : Nat} {x z : Int} (hx : l[i]? = some x) (hz : l[0]? = some z) (h : ¬ i + 1 < l.length) : stepAt n l i = z + n - x := by
  unfold stepAt
  rw [if_neg h, getD_of hx, getD_of hz]
def stpI (n : Int) (l : List Int) : List Int := if RhyOk n l then stepsL n l else []
theorem stpI_t {n : Int} {l : List Int} (h : RhyOk n l) : stpI n l = stepsL n l := by unfold stpI; rw [if_pos h]
theorem stpI_f {n : Int} {l : List Int} (h : ¬ RhyOk n l) : stpI n l = [] := by unfold stpI; rw [if_neg h]
theorem stpI_len (n : Int) (l : List Int) : (stpI n l).length ≤ 1000000 := by
  unfold stpI
  split
  · rename_i h; unfold stepsL; rw [stepN_len]; have := RhyOk.len h; omega
  · exact Nat.zero_le _
set_option maxHeartbeats 1000000 in
theorem steps_c (n : Int) (l : List Int) (v : Value) (w : World) (hv : Ints w v l) (hok : RhyOk n l) : Calls Try.prog 35 #[.agg #[.int .i64 n, v]] w (RL (stepsL n l) w) := by
  obtain ⟨A, c, hve, _, _⟩ := hv.form0
  obtain ⟨k, hk⟩ : ∃ k, k = l.length := ⟨_, rfl⟩
  have hl24 := RhyOk.len hok
  rw [← hk] at hve hl24
  subst hve
  have hx0 := one_box w (.cells #[.int .i64 n, .slice A k c] 27)
  have Hv := Lib.hid (hv.ext hx0)
  have Hp := Lib.hid (RVar.new (T := 27) w n (.slice A k c))
  have Hk := Lib.hid hk
  have Hx0 := Lib.hid hx0
  have Hok := Lib.hid hok
  have hn24 := hok.1
  clear hv hk hx0 hok
  go_enter Try.func35, Try.ntmps35
  go_wp2
  go_loopw [3, 9] (fun o i wr => ∃ j : Nat, j ≤ k ∧ i = .int .i64 j ∧ Hid (Own wr (w.heap.size + 1) o (stepN n l j) ∧ Ext (w.alloc (.cells #[.int .i64 n, .slice A k c] 27)) wr)) (fun _ i _ => k - (intOf i).toNat)
  case atStart => exact ⟨0, Nat.zero_le _, rfl, Own.nil _ _, Below.refl _ _⟩
  case round =>
    obtain ⟨j, hj, rfl, hr⟩ := hrel
    have hll : (stepN n l j).length ≤ j := Nat.le_of_eq (stepN_len n l j)
    have hcp0 := (Hp.out.ext hr.out.2).c0
    have hcp1 := (Hp.out.ext hr.out.2).c1
    have hsz : w.heap.size + 1 ≤ wr.heap.size := by have := hr.out.2.size; simpa using this
    by_cases hjk : j < k
    · obtain ⟨ad, c', hA, _, _⟩ := Hv.out.form (by rw [← Hk.out]; omega)
      rw [← Hk.out] at hA
      obtain ⟨rfl, rfl⟩ : A = some ad ∧ c = c' := by simpa using hA
      obtain ⟨x, hx⟩ : ∃ x, l[j]? = some x := ⟨_, List.getElem?_eq_getElem (by rw [← Hk.out]; omega)⟩
      have hc := (Hv.out.ext hr.out.2).cell hx
      have hxr := Hok.out.2.2 x (List.mem_of_getElem? hx)
      by_cases hjk2 : j + 1 < k
      · obtain ⟨y, hy⟩ : ∃ y, l[j + 1]? = some y := ⟨_, List.getElem?_eq_getElem (by rw [← Hk.out]; omega)⟩
        have hc2 := (Hv.out.ext hr.out.2).cell hy
        rw [show ad.add (j + 1) = ⟨ad.block, ad.off + (j + 1), none⟩ by unfold Addr.add; simp] at hc2
        have hyr := Hok.out.2.2 y (List.mem_of_getElem? hy)
        have Hn : Hid (stepN n l (j + 1) = stepN n l j ++ [y - x]) := by unfold Hid; rw [stepN_succ, stepAt_mid hx hy]
        have hjj : (j : Int) + 1 < (k : Int) := by omega
        clear hx hy hA
        go_wp2_with (first | (at_builtin; refine wp_append1 rfl (.tmp 20) (.tmp 29) rfl rfl rfl hr.out.1 (by unfold I64; omega) (by omega) hsz ?_; intro v' w' ho hg hb hat))
        go_roundw
        case rel => exact ⟨j + 1, by omega, by go_num, by rw [Hn.out]; exact ho, hr.out.2.trans (by simpa only [World.size_alloc] using hb)⟩
        case measure => simp [intOf]; omega
      · obtain ⟨z, hz⟩ : ∃ z, l[0]? = some z := ⟨_, List.getElem?_eq_getElem (by rw [← Hk.out]; omega)⟩
        have hc2 := (Hv.out.ext hr.out.2).cell hz
        rw [show ad.add 0 = ad by unfold Addr.add; simp] at hc2
        have Hc2 := Lib.hid hc2
        have hzr := Hok.out.2.2 z (List.mem_of_getElem? hz)
        have Hn : Hid (stepN n l (j + 1) = stepN n l j ++ [n + z - x]) := by unfold Hid; rw [stepN_succ, stepAt_end hx hz (by rw [← Hk.out]; exact hjk2), Int.add_comm z n]
        have hjj : ¬ ((j : Int) + 1 < (k : Int)) := by omega
        have hk0 : 0 < k := by omega
        have hw1 : IntKind.i64.wrap (n + z) = n + z := IntWalk.i64_in _ (by omega)
        have hw2 : IntKind.i64.wrap (n + z - x) = n + z - x := IntWalk.i64_in _ (by omega)
        have hne0 : w.heap.size < w.heap.size + 1 := by omega
        have Hb := Lib.hid (World.block_lt_of_cell? _ _ (Hv.out.cell hz))
        clear hx hz hA
        go_wp2
        first
          | (go_region_held3 (fun w' => w'.cell? ⟨w.heap.size, 0, none⟩ = some (.int .i64 n) ∧ w'.cell? ⟨w.heap.size, 1, none⟩ = some (.slice (some ad) k c) ∧ w'.cell? ad = some (.int .i64 z))
              (first
                | (go_keep; done)
                | exact ⟨below_old hb hne0 ((Hp.out.ext hr.out.2).allocD _).c0, below_old hb hne0 ((Hp.out.ext hr.out.2).allocD _).c1, below_old hb (by have := Hb.out; simpa [block_of_add] using this) ((Ext.allocD _ _).cell_of Hc2.out)⟩
                | (refine ⟨?_, ?_, ?_⟩ <;> (go_keep; done)))
              ((refine step_append1 rfl (.tmp 31) (.tmp 41) rfl rfl rfl ((hr.out.1.alloc _).drew) (cell_new _ _ _) (by unfold I64; omega) (by omega) (by simp; omega) ?_; intro v' w' ho hg hb hat)))
          | fail
        all_goals
          go_wp2
          go_roundw
          case rel => exact ⟨j + 1, by omega, by go_num, by rw [Hn.out]; exact ho, hr.out.2.trans (by simpa only [World.size_alloc] using ((Ext.allocD _ _).mono hsz).trans hb)⟩
          case measure => simp [intOf]; omega
    · obtain rfl : j = k := by omega
      go_wp2
      go_ret
      exact ⟨_, rfl, by unfold stepsL; rw [← Hk.out]; exact hr.out.1.base (by omega), Hx0.out.tr hr.out.2⟩
theorem stepsOf_c (n : Int) (l : List Int) (v : Value) (w : World) (hv : Ints w v l) : Calls Try.prog 23 #[.agg #[.int .i64 n, v]] w (RL (stpI n l) w) := by
  obtain ⟨A, c, hve, _, _⟩ := hv.form0
  obtain ⟨k, hk⟩ : ∃ k, k = l.length := ⟨_, rfl⟩
  rw [← hk] at hve
  subst hve
  have hx0 := one_box w (.cells #[.int .i64 n, .slice A k c] 27)
  have Hv := Lib.hid (hv.ext hx0)
  have Hp := Lib.hid (RVar.new (T := 27) w n (.slice A k c))
  have Hx0 := Lib.hid hx0
  clear hv hk hx0
  by_cases hr : RhyOk n l
  · have Hr := Lib.hid hr
    have H := Lib.hid (stpI_t hr)
    clear hr
    go_enter Try.func23, Try.ntmps23
    go_wp2_with (first | (go_at_call 31; refine (rhythmOk_c n l _ _ Hv.out).mono ?_; rintro e w1 ⟨b1, rfl, hb1, hx1⟩; obtain rfl := hb1.2 Hr.out; clear hb1; have hc0 := (Hp.out.ext hx1).c0; have hc1 := (Hp.out.ext hx1).c1) | (go_at_call 35; refine (steps_c n l _ _ (Hv.out.ext hx1) Hr.out).mono ?_; rintro e w2 ⟨v2, rfl, ho2, hx2⟩))
    go_ret
    exact ⟨_, rfl, by rw [H.out]; exact ho2.base (Hx0.out.tr hx1).size, Hx0.out.tr (hx1.tr hx2)⟩
  · have Hr := Lib.hid hr
    have H := Lib.hid (stpI_f hr)
    clear hr
    go_enter Try.func23, Try.ntmps23
    go_wp2_with (first | (go_at_call 31; refine (rhythmOk_c n l _ _ Hv.out).mono ?_; rintro e w1 ⟨b1, rfl, hb1, hx1⟩; obtain rfl := bool_f hb1 Hr.out; clear hb1))
    go_ret
    exact ⟨_, rfl, by rw [H.out]; exact Own.nil _ _, Hx0.out.tr hx1⟩
end Go.Proofs.Ytnbfcdanpplllaa
