/- Contracts: remainder, l02Mod, rhythmOf, moved and rotated, l02Map. -/
import Derived.Test.YtjecdmlojgmbeaaGreatDoorFcol
import Derived.Test.YtjecdmlojgmbeaaGreatDoorFof
namespace Go.Proofs.YtjecdmlojgmbeaaGreatDoor
open Go.RowKit
theorem tmod_pos (k : Int) {n : Nat} (hn : 1 ≤ n) : -(n : Int) < k.tmod n ∧ k.tmod n < n := by
  refine ⟨?_, Int.tmod_lt_of_pos k (by omega)⟩
  have h1 : (-k).tmod (n : Int) < n := Int.tmod_lt_of_pos (-k) (by omega)
  rw [Int.neg_tmod] at h1
  omega
theorem mod_twice (k : Int) {n : Nat} (hn : 1 ≤ n) : (k.tmod n + n).tmod n = k % n := by
  obtain ⟨h1, h2⟩ := tmod_pos k hn
  rw [Int.tmod_eq_emod_of_nonneg (by omega), Int.add_emod_right]
  rw [Int.tmod_eq_emod]
  split
  · simp
  · rw [show (k % (n : Int) - ((n : Int).natAbs : Int)) = k % (n : Int) - (n : Int) by omega, Int.sub_emod_right, Int.emod_emod]
set_option maxRecDepth 100000 in
theorem remainder_c (k : Int) (n : Nat) (w : World) (hn : 1 ≤ n) (hn2 : n ≤ 1000000) : Calls Tryz.prog 46 #[.int .i64 k, .int .i64 n] w fun e w' => e = .returned (.int .i64 (k % n)) ∧ w = w' := by
  have H := Lib.hid (mod_twice k hn)
  obtain ⟨q, hq⟩ : ∃ q, q = k.tmod (n : Int) := ⟨_, rfl⟩
  have hb := tmod_pos k hn
  rw [← hq] at hb
  have hw1 : IntKind.i64.wrap (k.tmod (n : Int)) = q := by rw [← hq]; exact IntWalk.i64_in _ (by omega)
  have hw2 : IntKind.i64.wrap (q + (n : Int)) = q + (n : Int) := IntWalk.i64_in _ (by omega)
  have hw4 : wrap64 (q + (n : Int)) = q + (n : Int) := IntWalk.wrap64_in _ ⟨by omega, by omega⟩
  have Hq := Lib.hid hq
  have hn0 : ¬ n = 0 := by omega
  have hn1 : (1 : Int) ≤ (n : Int) := by omega
  have hm : (q + (n : Int)) % (n : Int) < (n : Int) := Int.emod_lt_of_pos _ (by omega)
  have hm0 : 0 ≤ (q + (n : Int)) % (n : Int) := Int.emod_nonneg _ (by omega)
  have hw3 : IntKind.i64.wrap ((q + (n : Int)) % (n : Int)) = (q + (n : Int)) % (n : Int) := IntWalk.i64_in _ (by omega)
  clear hq
  go_enter Tryz.func46, Tryz.ntmps46
  go_wp2
  go_ret
  refine ⟨?_, rfl⟩
  rw [← H.out, ← Hq.out]
  show Ending.returned (.int .i64 ((wrap64 (q + (n : Int))).tmod (n : Int))) = _
  rw [hw4]
/-- the beats on the remainders -/
theorem remL_len (n : Nat) (l : List Int) : (remL n l).length = l.length := by simp [remL]
theorem remL_take {n k : Nat} {l : List Int} {x : Int} (h : l[k]? = some x) : remL n (l.take (k + 1)) = remL n (l.take k) ++ [x % (n : Int)] := by
  unfold remL; rw [take_succ h]; simp
theorem remL_mem {n : Nat} (hn : 1 ≤ n) {l : List Int} {x : Int} (h : x ∈ remL n l) : 0 ≤ x ∧ x < n := by
  unfold remL at h
  rw [List.mem_map] at h
  obtain ⟨y, _, rfl⟩ := h
  exact ⟨Int.emod_nonneg _ (by omega), Int.emod_lt_of_pos _ (by omega)⟩
set_option maxRecDepth 100000 in
theorem rhythmOf_c (n : Nat) (l : List Int) (v : Value) (w : World) (hv : Ints w v l) (hn : 1 ≤ n) (hn2 : n ≤ 1000) (hlen : l.length ≤ 100000) : Calls Tryz.prog 52 #[.int .i64 n, v] w (RR n (rhL n (remL n l)) w) := by
  obtain ⟨A, c, hve, _, _⟩ := hv.form0
  obtain ⟨k, hk⟩ : ∃ k, k = l.length := ⟨_, rfl⟩
  rw [← hk] at hve hlen
  subst hve
  have Hv := Lib.hid hv
  have Hk := Lib.hid hk
  clear hv hk
  go_enter Tryz.func52, Tryz.ntmps52
  go_wp2
  go_loopw [5, 10] (fun o i wr => ∃ j : Nat, j ≤ k ∧ i = .int .i64 j ∧ Hid (ROut w wr o (remL n (l.take j)))) (fun _ i _ => k - (intOf i).toNat)
  case atStart => exact ⟨0, Nat.zero_le _, rfl, ROut.start0 w⟩
  case round =>
    obtain ⟨j, hj, rfl, hr⟩ := hrel
    have hl : (remL n (l.take j)).length ≤ j := by rw [remL_len, List.length_take]; omega
    by_cases hjk : j < k
    · obtain ⟨ad, c', hA, _, _⟩ := Hv.out.form (by rw [← Hk.out]; omega)
      rw [← Hk.out] at hA
      obtain ⟨rfl, rfl⟩ : A = some ad ∧ c = c' := by simpa using hA
      obtain ⟨x, hx⟩ : ∃ x, l[j]? = some x := ⟨_, List.getElem?_eq_getElem (by rw [← Hk.out]; omega)⟩
      have hc := (Hv.out.ext hr.out.2.2).cell hx
      have Hn := Lib.hid (remL_take (n := n) hx)
      have hm : x % (n : Int) < (n : Int) := Int.emod_lt_of_pos _ (by omega)
      have hm0 : 0 ≤ x % (n : Int) := Int.emod_nonneg _ (by omega)
      obtain ⟨y, hy⟩ : ∃ y, x % (n : Int) = y := ⟨_, rfl⟩
      have Hy := Lib.hid hy
      rw [hy] at hm hm0
      clear hx hA hy
      go_wp2_with (first | (go_at_call 46; refine (remainder_c x n _ (by omega) (by omega)).mono ?_; rintro e wz ⟨rfl, rfl⟩; rw [Hy.out]) | (at_builtin; refine wp_append1 rfl (.tmp 14) (.tmp 18) rfl rfl rfl hr.out.2.1 (by unfold I64; omega) (by omega) hr.out.size ?_; intro v' w' ho hg hb hat))
      go_roundw
      case rel => exact ⟨j + 1, by omega, by go_num, by unfold Hid; rw [Hn.out, Hy.out]; exact hr.out.app ho hg⟩
      case measure => simp [intOf]; omega
    · obtain rfl : j = k := by omega
      have Hall : Hid (remL n (l.take j) = remL n l) := by unfold Hid; rw [List.take_of_length_le (by rw [← Hk.out]; exact Nat.le_refl _)]
      have Hrh : Hid (colL (remL n l) = rhL n (remL n l)) := colL_rh (fun x hx => remL_mem hn hx)
      have Ho := Lib.hid (show Own _ _ _ (remL n l) by rw [← Hall.out]; exact hr.out.2.1)
      have hlr : (remL n l).length ≤ 1000000000 := by rw [remL_len, ← Hk.out]; omega
      go_wp2_with (first | (go_at_call 65; refine (collected_c (remL n l) _ _ Ho.out.ints (by omega)).mono ?_; rintro e w2 ⟨u2, rfl, ho2, hx2⟩; obtain ⟨Au, nu, cu, rfl⟩ := ho2.form; have Hr := Lib.hid (ret_fin (n := (n : Int)) (hr.out.1.ext hx2) ho2 hr.out.size (hr.out.2.2.tr hx2)); have hd0 := (hr.out.1.ext hx2).c0; have hf0 := (hr.out.1.ext hx2).f 0; have hd1 := ((hr.out.1.ext hx2).set0 (m := (n : Int))).c1; have hf1 := ((hr.out.1.ext hx2).set0 (m := (n : Int))).f 1))
      have hcf0 := Hr.out.1.c0
      have hcf1 := Hr.out.1.c1
      exact bodyPost_ret (v := .agg #[.int .i64 n, .slice Au nu cu]) (by simp [results, Tryz.results52, hcf0, hcf1, go_sem]) rfl ⟨_, rfl, by rw [← Hrh.out]; exact Hr.out.2.1, Hr.out.2.2⟩
/-- each number plus k -/
def addL (k : Int) (l : List Int) : List Int := l.map fun x => x + k
theorem addL_len (k : Int) (l : List Int) : (addL k l).length = l.length := by simp [addL]
theorem addL_take {k : Int} {j : Nat} {l : List Int} {x : Int} (h : l[j]? = some x) : addL k (l.take (j + 1)) = addL k (l.take j) ++ [x + k] := by
  unfold addL; rw [take_succ h]; simp
/-- the rotation by k -/
def rotL (n : Nat) (l : List Int) (k : Int) : List Int := rhL n (remL n (addL k l))
theorem RhyOk.nat {n : Int} {l : List Int} (h : RhyOk n l) : ∃ m : Nat, n = m ∧ 1 ≤ m ∧ m ≤ 24 ∧ l.length ≤ m ∧ ∀ x ∈ l, 0 ≤ x ∧ x < m := by
  refine ⟨n.toNat, by have := h.1; omega, by have := h.1; omega, by have := h.1; omega, inc_len h.2.1 fun x hx => ?_, fun x hx => ?_⟩
  · have := h.2.2 x hx; omega
  · have := h.2.2 x hx; omega
theorem rot1_c (x k : Int) (b : Nat) (w : World) (hx : 0 ≤ x ∧ x ≤ 1000) (hk : -1000000 ≤ k ∧ k ≤ 1000000) (h1 : w.cell? ⟨b, 0, none⟩ = some (.int .i64 k)) :
    Calls Tryz.prog 43 #[.int .i64 x, .pointer (some ⟨b, 0, none⟩)] w fun e w' => e = .returned (.int .i64 (x + k)) ∧ w = w' := by
  go_enter Tryz.func43, Tryz.ntmps43
  go_wp2
  go_ret
  exact ⟨rfl, rfl⟩
theorem movedRot_c (n : Nat) (l : List Int) (k : Int) (b : Nat) (v : Value) (w : World) (hv : Ints w v l) (hn : 1 ≤ n ∧ n ≤ 24) (hl : ∀ x ∈ l, 0 ≤ x ∧ x < n) (hlen : l.length ≤ n) (hk : -1000000 ≤ k ∧ k ≤ 1000000) (h1 : w.cell? ⟨b, 0, none⟩ = some (.int .i64 k)) :
    Calls Tryz.prog 42 #[.agg #[.int .i64 n, v], .func (.func 43) #[] #[.pointer (some ⟨b, 0, none⟩)]] w (RR n (rotL n l k) w) := by
  obtain ⟨A, c, hve, _, _⟩ := hv.form0
  obtain ⟨m, hm⟩ : ∃ m, m = l.length := ⟨_, rfl⟩
  rw [← hm] at hve hlen
  subst hve
  have hx1 := one_box w (.cells #[.int .i64 n, .slice A m c] 25)
  have Hp := Lib.hid (RVar.new (T := 25) w n (.slice A m c))
  have hst := ROut.start0 (w.alloc (.cells #[.int .i64 n, .slice A m c] 25))
  have Hst := Lib.hid hst
  have Hv := Lib.hid (hv.ext hx1)
  have Hk := Lib.hid (hx1.cell_of h1)
  have Hm := Lib.hid hm
  have Hl := Lib.hid hl
  have Hx1 := Lib.hid hx1
  clear hv hm hl hst h1 hx1
  go_enter Tryz.func42, Tryz.ntmps42
  go_wp2
  go_loopw [5, 11] (fun o i wr => ∃ j : Nat, j ≤ m ∧ i = .int .i64 j ∧ Hid (ROut (w.alloc (.cells #[.int .i64 n, .slice A m c] 25)) wr o (addL k (l.take j)))) (fun _ i _ => m - (intOf i).toNat)
  case atStart => exact ⟨0, Nat.zero_le _, rfl, Hst.out⟩
  case round =>
    obtain ⟨j, hj, rfl, hr⟩ := hrel
    have hll : (addL k (l.take j)).length ≤ j := by rw [addL_len, List.length_take]; omega
    have hcp0 := (Hp.out.ext hr.out.2.2).c0
    have hcp1 := (Hp.out.ext hr.out.2.2).c1
    by_cases hjm : j < m
    · obtain ⟨ad, c', hA, _, _⟩ := Hv.out.form (by rw [← Hm.out]; omega)
      rw [← Hm.out] at hA
      obtain ⟨rfl, rfl⟩ : A = some ad ∧ c = c' := by simpa using hA
      obtain ⟨x, hx⟩ : ∃ x, l[j]? = some x := ⟨_, List.getElem?_eq_getElem (by rw [← Hm.out]; omega)⟩
      have hc := (Hv.out.ext hr.out.2.2).cell hx
      have hck := hr.out.2.2.cell_of Hk.out
      have Hn := Lib.hid (addL_take (k := k) hx)
      have hxr := Hl.out x (List.mem_of_getElem? hx)
      have hsz := hr.out.size
      clear hx hA
      go_wp2_with (first | (go_at_call 43; refine (rot1_c x k b _ (by omega) hk hck).mono ?_; rintro e wz ⟨rfl, rfl⟩) | (at_builtin; refine wp_append1 rfl (.tmp 15) (.tmp 19) rfl rfl rfl hr.out.2.1 (by unfold I64; omega) (by omega) hsz ?_; intro v' w' ho hg hb hat))
      go_roundw
      case rel => exact ⟨j + 1, by omega, by go_num, by unfold Hid; rw [Hn.out]; exact hr.out.app ho hg⟩
      case measure => simp [intOf]; omega
    · obtain rfl : j = m := by omega
      have Hall : Hid (addL k (l.take j) = addL k l) := by unfold Hid; rw [List.take_of_length_le (by rw [← Hm.out]; exact Nat.le_refl _)]
      have Ho := Lib.hid (show Own _ _ _ (addL k l) by rw [← Hall.out]; exact hr.out.2.1)
      have hlr : (addL k l).length ≤ 100000 := by rw [addL_len, ← Hm.out]; omega
      go_wp2_with (first | (go_at_call 52; refine (rhythmOf_c n (addL k l) _ _ Ho.out.ints (by omega) (by omega) (by omega)).mono ?_; rintro e w2 ⟨u2, rfl, ho2, hx2⟩; obtain ⟨Au, nu, cu, rfl⟩ := ho2.form; have Hr := Lib.hid (ret_fin (n := (n : Int)) (hr.out.1.ext hx2) ho2 hr.out.size (hr.out.2.2.tr hx2)); have hd0 := (hr.out.1.ext hx2).c0; have hf0 := (hr.out.1.ext hx2).f 0; have hd1 := ((hr.out.1.ext hx2).set0 (m := (n : Int))).c1; have hf1 := ((hr.out.1.ext hx2).set0 (m := (n : Int))).f 1; simp only [World.size_alloc] at hd0 hf0 hd1 hf1))
      have hcf0 := Hr.out.1.c0
      have hcf1 := Hr.out.1.c1
      simp only [World.size_alloc] at hcf0 hcf1
      have ho3 := Hr.out.2.1.base (B' := w.heap.size) (by simp)
      have hx3 := Hx1.out.tr Hr.out.2.2
      simp only [World.size_alloc] at ho3 hx3
      exact bodyPost_ret (v := .agg #[.int .i64 n, .slice Au nu cu]) (by simp [results, Tryz.results42, hcf0, hcf1, go_sem]) rfl ⟨_, rfl, ho3, hx3⟩
set_option maxRecDepth 100000 in
theorem rotated_c (n : Nat) (l : List Int) (k : Int) (v : Value) (w : World) (hv : Ints w v l) (hn : 1 ≤ n ∧ n ≤ 24) (hl : ∀ x ∈ l, 0 ≤ x ∧ x < n) (hlen : l.length ≤ n) (hk : -1000000 ≤ k ∧ k ≤ 1000000) : Calls Tryz.prog 23 #[.agg #[.int .i64 n, v], .int .i64 k] w (RR n (rotL n l k) w) := by
  obtain ⟨A, c, hve, _, _⟩ := hv.form0
  obtain ⟨m, hm⟩ : ∃ m, m = l.length := ⟨_, rfl⟩
  rw [← hm] at hve
  subst hve
  obtain ⟨w1, hw1⟩ : ∃ w1, w1 = w.alloc (.cells #[.int .i64 n, .slice A m c] 25) := ⟨_, rfl⟩
  have hx1 : Ext w w1 := by rw [hw1]; exact one_box w _
  have hx2 := one_box w1 (.cells #[.int .i64 k] 3)
  have hs1 : w1.heap.size = w.heap.size + 1 := by rw [hw1]; simp
  have hk1 : ((w1.alloc (.cells #[.int .i64 k] 3)).alloc (.cells #[.int .i64 0, .slice none 0 0] 25)).cell? ⟨w.heap.size + 1, 0, none⟩ = some (.int .i64 k) := by
    rw [← hs1, World.cell?_alloc_lt _ _ _ (by simp)]
    exact cell_new0 _ _ _
  have hv0 := RVar.new (T := 25) (w1.alloc (.cells #[.int .i64 k] 3)) 0 (.slice none 0 0)
  have hx3 := one_box (w1.alloc (.cells #[.int .i64 k] 3)) (.cells #[.int .i64 0, .slice none 0 0] 25)
  have Hv := Lib.hid (((hv.ext hx1).ext hx2).ext hx3)
  have Hl := Lib.hid hl
  have Hlen := Lib.hid hlen
  have Hx3 := Lib.hid hx3
  have Hx1 := Lib.hid (hx1.tr hx2)
  have Hv0 := Lib.hid hv0
  subst hw1
  have Hk1 := Lib.hid hk1
  clear hv hm hl hlen hx1 hx2 hx3 hk1 hs1 hv0
  go_enter Tryz.func23, Tryz.ntmps23
  go_wp2_with (first | (go_at_call 42; refine (movedRot_c n l k _ _ _ Hv.out hn Hl.out Hlen.out hk Hk1.out).mono ?_; rintro e w2 ⟨u2, rfl, ho2, hx4⟩; obtain ⟨Au, nu, cu, rfl⟩ := ho2.form; have Hr := Lib.hid (ret_fin (n := (n : Int)) (Hv0.out.ext hx4) ho2 (by simp) (Hx3.out.tr hx4)); have hd0 := (Hv0.out.ext hx4).c0; have hf0 := (Hv0.out.ext hx4).f 0; have hd1 := ((Hv0.out.ext hx4).set0 (m := (n : Int))).c1; have hf1 := ((Hv0.out.ext hx4).set0 (m := (n : Int))).f 1; simp only [World.size_alloc] at hd0 hf0 hd1 hf1))
  have hcf0 := Hr.out.1.c0
  have hcf1 := Hr.out.1.c1
  simp only [World.size_alloc] at hcf0 hcf1
  have ho3 := Hr.out.2.1.base (B' := w.heap.size) (by simp; omega)
  have hx5 := Hx1.out.tr Hr.out.2.2
  simp only [World.size_alloc] at ho3 hx5
  exact bodyPost_ret (v := .agg #[.int .i64 n, .slice Au nu cu]) (by simp [results, Tryz.results23, hcf0, hcf1, go_sem]) rfl ⟨_, rfl, ho3, hx5⟩
end Go.Proofs.YtjecdmlojgmbeaaGreatDoor
