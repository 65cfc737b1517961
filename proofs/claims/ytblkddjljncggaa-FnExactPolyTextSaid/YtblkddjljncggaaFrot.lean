/- Contracts: remainder, l02Mod, rhythmOf, moved and rotated, l02Map. -/
import Derived.Test.YtblkddjljncggaaFcol
import Derived.Test.YtblkddjljncggaaFof
namespace Go.Proofs.Ytblkddjljncggaa
open Go.RowKit
theorem tmod_pos (k : Int) {n : Nat} (hn : 1 ≤ n) : -(n : Int) < k.tmod n ∧ k.tmod n < n := by
  refine ⟨?_, Int.tmod_lt_of_pos k (by omega)⟩
  have h1 : (-k).tmod (n : Int) < n := Int.tmod_lt_of_pos (-k) (by omega)
  rw [Int.neg_tmod] at h1
  omega
theorem mod_twice (k : Int) {n : Nat} (hn : 1 ≤ n) : (k.tmod n + n).tmod n = k % n := by
  obtain ⟨h1, h2⟩ := tmod_pos k hn
  rw [Int.tmod_eq_emod_of_nonneg (by omega), Int.add_emod_right]
  rw [Int.tmod_eq_emod]
  split
  · simp
  · rw [show (k % (n : Int) - ((n : Int).natAbs : Int)) = k % (n : Int) - (n : Int) by omega, Int.sub_emod_right, Int.emod_emod]
set_option maxRecDepth 100000 in
theorem remainder_c (k : Int) (n : Nat) (w : World) (hn : 1 ≤ n) (hn2 : n ≤ 1000000) : Calls Try.prog 60 #[.int .i64 k, .int .i64 n] w fun e w' => e = .returned (.int .i64 (k % n)) ∧ w = w' := by
  have H := Lib.hid (mod_twice k hn)
  obtain ⟨q, hq⟩ : ∃ q, q = k.tmod (n : Int) := ⟨_, rfl⟩
  have hb := tmod_pos k hn
  rw [← hq] at hb
  have hw1 : IntKind.i64.wrap (k.tmod (n : Int)) = q := by rw [← hq]; exact IntWalk.i64_in _ (by omega)
  have hw2 : IntKind.i64.wrap (q + (n : Int)) = q + (n : Int) := IntWalk.i64_in _ (by omega)
  have hw4 : wrap64 (q + (n : Int)) = q + (n : Int) := IntWalk.wrap64_in _ ⟨by omega, by omega⟩
  have Hq := Lib.hid hq
  have hn0 : ¬ n = 0 := by omega
  have hn1 : (1 : Int) ≤ (n : Int) := by omega
  have hm : (q + (n : Int)) % (n : Int) < (n : Int) := Int.emod_lt_of_pos _ (by omega)
  have hm0 : 0 ≤ (q + (n : Int)) % (n : Int) := Int.emod_nonneg _ (by omega)
  have hw3 : IntKind.i64.wrap ((q + (n : Int)) % (n : Int)) = (q + (n : Int)) % (n : Int) := IntWalk.i64_in _ (by omega)
  clear hq
  go_enter Try.func60, Try.ntmps60
  go_wp2
  go_ret
  refine ⟨?_, rfl⟩
  rw [← H.out, ← Hq.out]
  show Ending.returned (.int .i64 ((wrap64 (q + (n : Int))).tmod (n : Int))) = _
  rw [hw4]
/-- the beats on the remainders -/
def remL (n : Nat) (l : List Int) : List Int := l.map fun x => x % (n : Int)
theorem remL_len (n : Nat) (l : List Int) : (remL n l).length = l.length := by simp [remL]
theorem remL_take {n k : Nat} {l : List Int} {x : Int} (h : l[k]? = some x) : remL n (l.take (k + 1)) = remL n (l.take k) ++ [x % (n : Int)] := by
  unfold remL; rw [take_succ h]; simp
theorem remL_mem {n : Nat} (hn : 1 ≤ n) {l : List Int} {x : Int} (h : x ∈ remL n l) : 0 ≤ x ∧ x < n := by
  unfold remL at h
  rw [List.mem_map] at h
  obtain ⟨y, _, rfl⟩ := h
  exact ⟨Int.emod_nonneg _ (by omega), Int.emod_lt_of_pos _ (by omega)⟩
/-- each number plus k -/
def addL (k : Int) (l : List Int) : List Int := l.map fun x => x + k
theorem addL_len (k : Int) (l : List Int) : (addL k l).length = l.length := by simp [addL]
theorem addL_take {k : Int} {j : Nat} {l : List Int} {x : Int} (h : l[j]? = some x) : addL k (l.take (j + 1)) = addL k (l.take j) ++ [x + k] := by
  unfold addL; rw [take_succ h]; simp
/-- the rotation by k -/
def rotL (n : Nat) (l : List Int) (k : Int) : List Int := rhL n (remL n (addL k l))
theorem RhyOk.nat {n : Int} {l : List Int} (h : RhyOk n l) : ∃ m : Nat, n = m ∧ 1 ≤ m ∧ m ≤ 24 ∧ l.length ≤ m ∧ ∀ x ∈ l, 0 ≤ x ∧ x < m := by
  refine ⟨n.toNat, by have := h.1; omega, by have := h.1; omega, by have := h.1; omega, inc_len h.2.1 fun x hx => ?_, fun x hx => ?_⟩
  · have := h.2.2 x hx; omega
  · have := h.2.2 x hx; omega
end Go.Proofs.Ytblkddjljncggaa
