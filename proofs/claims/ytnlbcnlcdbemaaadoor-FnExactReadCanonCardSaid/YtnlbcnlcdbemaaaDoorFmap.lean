/- Contracts: l02Map; RotateRhythm on both sides; the phase of a rhythm. -/
import Derived.Test.YtnlbcnlcdbemaaaDoorFjoin
namespace Go.Proofs.YtnlbcnlcdbemaaaDoor
open Go.RowKit
/-- u times each number plus k -/
def mulL (u k : Int) (l : List Int) : List Int := l.map fun x => u * x + k
theorem mulL_len (u k : Int) (l : List Int) : (mulL u k l).length = l.length := by simp [mulL]
def mapN (n : Nat) (u k : Int) (l : List Int) : List Int := remL n (mulL u k l)
theorem mapN_len (n : Nat) (u k : Int) (l : List Int) : (mapN n u k l).length = l.length := by simp [mapN, remL_len, mulL_len]
theorem mapN_take {n : Nat} {u k : Int} {j : Nat} {l : List Int} {x : Int} (h : l[j]? = some x) : mapN n u k (l.take (j + 1)) = mapN n u k (l.take j) ++ [(u * x + k) % (n : Int)] := by
  unfold mapN mulL remL; rw [take_succ h]; simp
theorem mulL_one (k : Int) (l : List Int) : mulL 1 k l = addL k l := by simp [mulL, addL]
/-- the pulses u * p + k -/
def mapL (n : Nat) (l : List Int) (u k : Int) : List Int := rhL n (mapN n u k l)
theorem mapL_one (n : Nat) (l : List Int) (k : Int) : mapL n l 1 k = rotL n l k := by unfold mapL mapN rotL; rw [mulL_one]
set_option maxRecDepth 100000 in
set_option maxHeartbeats 1000000 in
theorem l02Map_c (n : Nat) (l : List Int) (u k : Int) (v : Value) (w : World) (hv : Ints w v l) (hn : 1 ≤ n ∧ n ≤ 24) (hl : ∀ x ∈ l, 0 ≤ x ∧ x < n) (hlen : l.length ≤ n) (hu : -100 ≤ u ∧ u ≤ 100) (hk : -1000000 ≤ k ∧ k ≤ 1000000) :
    Calls Tryd.prog 15 #[.agg #[.int .i64 n, v], .int .i64 u, .int .i64 k] w (RR n (mapL n l u k) w) := by
  obtain ⟨A, c, hve, _, _⟩ := hv.form0
  obtain ⟨m, hm⟩ : ∃ m, m = l.length := ⟨_, rfl⟩
  rw [← hm] at hve hlen
  subst hve
  have hx1 := one_box w (.cells #[.int .i64 n, .slice A m c] 26)
  have Hp := Lib.hid (RVar.new (T := 26) w n (.slice A m c))
  have hst := ROut.start (w.alloc (.cells #[.int .i64 n, .slice A m c] 26))
  simp only [World.size_alloc] at hst
  have Hst := Lib.hid hst
  have Hv := Lib.hid (hv.ext hx1)
  have Hm := Lib.hid hm
  have Hl := Lib.hid hl
  have Hx1 := Lib.hid hx1
  clear hv hm hl hst hx1
  go_enter Tryd.func15, Tryd.ntmps15
  go_wp2
  go_loopw [7, 14] (fun o i wr => ∃ j : Nat, j ≤ m ∧ i = .int .i64 j ∧ Hid (ROut (w.alloc (.cells #[.int .i64 n, .slice A m c] 26)) wr o (mapN n u k (l.take j)))) (fun _ i _ => m - (intOf i).toNat)
  case atStart => exact ⟨0, Nat.zero_le _, rfl, Hst.out⟩
  case round =>
    obtain ⟨j, hj, rfl, hr⟩ := hrel
    have hll : (mapN n u k (l.take j)).length ≤ j := by rw [mapN_len, List.length_take]; omega
    have hcp0 := (Hp.out.ext hr.out.2.2).c0
    have hcp1 := (Hp.out.ext hr.out.2.2).c1
    by_cases hjm : j < m
    · obtain ⟨ad, c', hA, _, _⟩ := Hv.out.form (by rw [← Hm.out]; omega)
      rw [← Hm.out] at hA
      obtain ⟨rfl, rfl⟩ : A = some ad ∧ c = c' := by simpa using hA
      obtain ⟨x, hx⟩ : ∃ x, l[j]? = some x := ⟨_, List.getElem?_eq_getElem (by rw [← Hm.out]; omega)⟩
      have hc := (Hv.out.ext hr.out.2.2).cell hx
      have Hn := Lib.hid (mapN_take (n := n) (u := u) (k := k) hx)
      have hxr := Hl.out x (List.mem_of_getElem? hx)
      have hsz := hr.out.size
      have hux : -100 * 24 ≤ u * x ∧ u * x ≤ 100 * 24 := by
        have hx0 : 0 ≤ x := hxr.1
        have hx24 : x ≤ 24 := by omega
        constructor
        · have h1 : -100 * x ≤ u * x := Int.mul_le_mul_of_nonneg_right hu.1 hx0
          omega
        · have h1 : u * x ≤ 100 * x := Int.mul_le_mul_of_nonneg_right hu.2 hx0
          omega
      obtain ⟨t, ht⟩ : ∃ t, t = u * x := ⟨_, rfl⟩
      have hw1 : IntKind.i64.wrap (u * x) = t := by rw [← ht]; rw [← ht] at hux; exact IntWalk.i64_in _ (by omega)
      rw [← ht] at hux
      have hw2 : IntKind.i64.wrap (t + k) = t + k := IntWalk.i64_in _ (by omega)
      have Ht := Lib.hid ht
      have hm1 : (t + k) % (n : Int) < (n : Int) := Int.emod_lt_of_pos _ (by omega)
      have hm0 : 0 ≤ (t + k) % (n : Int) := Int.emod_nonneg _ (by omega)
      obtain ⟨y, hy⟩ : ∃ y, (t + k) % (n : Int) = y := ⟨_, rfl⟩
      have Hy := Lib.hid hy
      rw [hy] at hm1 hm0
      clear hx hA ht hy
      go_wp2_with (first | (go_at_call 25; refine (l02Mod_c (t + k) n _ (by omega) (by omega)).mono ?_; rintro e wz ⟨rfl, rfl⟩; rw [Hy.out]) | (at_builtin; refine wp_append1 rfl (.tmp 18) (.tmp 27) rfl rfl rfl hr.out.2.1 (by unfold I64; omega) (by omega) hsz ?_; intro v' w' ho hg hb hat))
      go_roundw
      case rel => exact ⟨j + 1, by omega, by go_num, by unfold Hid; rw [Hn.out, ← Ht.out, Hy.out]; exact hr.out.app ho hg⟩
      case measure => simp [intOf]; omega
    · obtain rfl : j = m := by omega
      have Hall : Hid (mapN n u k (l.take j) = mapN n u k l) := by unfold Hid; rw [List.take_of_length_le (by rw [← Hm.out]; exact Nat.le_refl _)]
      have Ho := Lib.hid (show Own _ _ _ (mapN n u k l) by rw [← Hall.out]; exact hr.out.2.1)
      go_wp2_with (first | (go_at_call 26; refine (l02Of_c n (mapN n u k l) _ _ Ho.out.ints (by omega)).mono ?_; rintro e w2 ⟨u2, rfl, ho2, hx2⟩; obtain ⟨Au, nu, cu, rfl⟩ := ho2.form; have Hr := Lib.hid (ret_fin (n := (n : Int)) (hr.out.1.ext hx2) ho2 hr.out.size (hr.out.2.2.tr hx2)); have hd0 := (hr.out.1.ext hx2).c0; have hf0 := (hr.out.1.ext hx2).f 0; have hd1 := ((hr.out.1.ext hx2).set0 (m := (n : Int))).c1; have hf1 := ((hr.out.1.ext hx2).set0 (m := (n : Int))).f 1; simp only [World.size_alloc] at hd0 hf0 hd1 hf1))
      have hcf0 := Hr.out.1.c0
      have hcf1 := Hr.out.1.c1
      simp only [World.size_alloc] at hcf0 hcf1
      have ho3 := Hr.out.2.1.base (B' := w.heap.size) (by simp)
      have hx3 := Hx1.out.tr Hr.out.2.2
      simp only [World.size_alloc] at ho3 hx3
      exact bodyPost_ret (v := .agg #[.int .i64 n, .slice Au nu cu]) (by simp [results, Tryd.results15, hcf0, hcf1, go_sem]) rfl ⟨_, rfl, ho3, hx3⟩
theorem l02Map1_c (n : Nat) (l : List Int) (k : Int) (v : Value) (w : World) (hv : Ints w v l) (hn : 1 ≤ n ∧ n ≤ 24) (hl : ∀ x ∈ l, 0 ≤ x ∧ x < n) (hlen : l.length ≤ n) (hk : -1000000 ≤ k ∧ k ≤ 1000000) :
    Calls Tryd.prog 15 #[.agg #[.int .i64 n, v], .int .i64 1, .int .i64 k] w (RR n (rotL n l k) w) := by
  have h := l02Map_c n l 1 k v w hv hn hl hlen (by omega) hk
  rw [mapL_one] at h
  exact h
end Go.Proofs.YtnlbcnlcdbemaaaDoor
