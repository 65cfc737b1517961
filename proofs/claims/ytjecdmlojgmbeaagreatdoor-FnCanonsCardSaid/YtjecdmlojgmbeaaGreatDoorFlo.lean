/- Contracts: the voices on a pulse; LineOf on both sides. -/
import Derived.Test.YtjecdmlojgmbeaaGreatDoorFcn
import Derived.Test.YtjecdmlojgmbeaaGreatDoorFmee
import Derived.Test.YtjecdmlojgmbeaaGreatDoorRhs
namespace Go.Proofs.YtjecdmlojgmbeaaGreatDoor
open Go.RowKit
/-- the voices below j that play on pulse t -/
def vsUp (n : Nat) (l r : List Int) (t : Int) (j : Nat) : List Int := ((List.range j).filter fun i => decide ((t - r.getD i 0) % (n : Int) ∈ l)).map fun (i : Nat) => (i : Int)
theorem vsUp_t {n : Nat} {l r : List Int} {t x : Int} {j : Nat} (h : r[j]? = some x) (hx : (t - x) % (n : Int) ∈ l) : vsUp n l r t (j + 1) = vsUp n l r t j ++ [(j : Int)] := by
  unfold vsUp; rw [List.range_succ, List.filter_append]; simp only [List.filter_cons, getD_of h]; simp [hx]
theorem vsUp_f {n : Nat} {l r : List Int} {t x : Int} {j : Nat} (h : r[j]? = some x) (hx : ¬ (t - x) % (n : Int) ∈ l) : vsUp n l r t (j + 1) = vsUp n l r t j := by
  unfold vsUp; rw [List.range_succ, List.filter_append]; simp only [List.filter_cons, getD_of h]; simp [hx]
theorem vsUp_len (n : Nat) (l r : List Int) (t : Int) (j : Nat) : (vsUp n l r t j).length ≤ j := by
  unfold vsUp; rw [List.length_map]; exact Nat.le_trans (List.length_filter_le _ _) (by simp)
def vsL (n : Nat) (l r : List Int) (t : Int) : List Int := vsUp n l r t r.length
set_option maxRecDepth 100000 in
set_option maxHeartbeats 1000000 in
theorem voicesAt_c (n : Nat) (m : Int) (l r : List Int) (t : Int) (v u : Value) (w : World) (hv : Ints w v l) (hu : Ints w u r) (hn : 1 ≤ n ∧ n ≤ 24) (hr : r.length ≤ 24 ∧ ∀ x ∈ r, 0 ≤ x ∧ x ≤ 24) (ht : 0 ≤ t ∧ t ≤ 1000) :
    Calls Tryz.prog 26 #[.agg #[.int .i64 n, v, .int .i64 m, u], .int .i64 t] w (RL (vsL n l r t) w) := by
  obtain ⟨A, c, hve, _, _⟩ := hv.form0
  obtain ⟨A', c', hue, _, _⟩ := hu.form0
  obtain ⟨k, hk⟩ : ∃ k, k = l.length := ⟨_, rfl⟩
  obtain ⟨k', hk'⟩ : ∃ k', k' = r.length := ⟨_, rfl⟩
  rw [← hk] at hve
  rw [← hk'] at hue
  subst hve
  subst hue
  have hx := one_box w (.cells #[.int .i64 (n : Int), .slice A k c, .int .i64 m, .slice A' k' c'] 29)
  have ha := CVar.new (T := 29) w (n : Int) (.slice A k c) m (.slice A' k' c')
  have Hk := Lib.hid hk
  have Hk' := Lib.hid hk'
  have Hv := Lib.hid (hv.ext hx)
  have Hu := Lib.hid (hu.ext hx)
  have Hx := Lib.hid hx
  have Ca := Lib.hid ha
  clear hv hu hx hk hk' ha
  have hc3 := Ca.out.c3
  have Hr := Lib.hid hr
  have hk24 : k' ≤ 24 := by rw [Hk'.out]; exact hr.1
  clear hr
  have hn' : 1 ≤ n ∧ n ≤ 1000 := by omega
  go_enter Tryz.func26, Tryz.ntmps26
  go_wp2
  go_loopw [5, 12] (fun o i wr => ∃ j : Nat, j ≤ k' ∧ i = .int .i64 j ∧ Hid (Own wr (w.heap.size + 1) o (vsUp n l r t j) ∧ Ext (w.alloc (.cells #[.int .i64 (n : Int), .slice A k c, .int .i64 m, .slice A' k' c'] 29)) wr)) (fun _ i _ => k' - (intOf i).toNat)
  case atStart => exact ⟨0, Nat.zero_le _, rfl, Own.nil _ _, Below.refl _ _⟩
  case round =>
    clear hc3
    obtain ⟨j, hj, rfl, hrel⟩ := hrel
    have hc0 := (Ca.out.ext hrel.out.2).c0
    have hc1 := (Ca.out.ext hrel.out.2).c1
    by_cases hjk : j < k'
    · obtain ⟨ad, cc, hA, _, _⟩ := Hu.out.form (by rw [← Hk'.out]; omega)
      obtain ⟨rfl, rfl⟩ : A' = some ad ∧ c' = cc := by simp only [Value.slice.injEq] at hA; exact ⟨hA.1, hA.2.2⟩
      obtain ⟨x, hx⟩ : ∃ x, r[j]? = some x := ⟨_, List.getElem?_eq_getElem (by rw [← Hk'.out]; exact hjk)⟩
      have hcx := (Hu.out.ext hrel.out.2).cell hx
      have hxr := Hr.out.2 x (List.mem_of_getElem? hx)
      have hjk2 : (j : Int) < (k' : Int) := by omega
      have hol := vsUp_len n l r t j
      have hsz : w.heap.size + 1 ≤ wr.heap.size := by have := hrel.out.2.size; simp only [World.size_alloc] at this; exact this
      by_cases hin : (t - x) % (n : Int) ∈ l
      · have Hin := Lib.hid hin
        have Hn := Lib.hid (vsUp_t hx hin)
        clear hin hx hA
        go_wp2_with (first | (go_at_call 32; refine (has_c n l (t - x) _ _ (Hv.out.ext hrel.out.2) hn').mono ?_; rintro e w3 ⟨b3, rfl, hb3, hx3⟩; (obtain rfl := hb3.2 Hin.out; clear hb3)) | (at_builtin; refine wp_append1 rfl (.tmp 23) (.tmp 25) rfl rfl rfl (hrel.out.1.ext hx3) (by unfold I64; omega) (by omega) (by have := hx3.size; omega) ?_; intro v' w' ho hg hb hat))
        go_roundw
        case rel => exact ⟨j + 1, by omega, by go_num, by rw [Hn.out]; exact ho, (hrel.out.2.tr hx3).trans (by rw [World.size_alloc]; exact hb)⟩
        case measure => simp [intOf]; omega
      · have Hin := Lib.hid hin
        have Hn := Lib.hid (vsUp_f hx hin)
        clear hin hx hA
        go_wp2_with (first | (go_at_call 32; refine (has_c n l (t - x) _ _ (Hv.out.ext hrel.out.2) hn').mono ?_; rintro e w3 ⟨b3, rfl, hb3, hx3⟩; (obtain rfl := bool_f hb3 Hin.out; clear hb3)))
        go_roundw
        case rel => exact ⟨j + 1, by omega, by go_num, by rw [Hn.out]; exact hrel.out.1.ext hx3, hrel.out.2.tr hx3⟩
        case measure => simp [intOf]; omega
    · obtain rfl : j = k' := by omega
      go_wp2
      go_ret
      exact ⟨_, rfl, by unfold vsL; rw [← Hk'.out]; exact hrel.out.1.base (by omega), Hx.out.tr hrel.out.2⟩
end Go.Proofs.YtjecdmlojgmbeaaGreatDoor
