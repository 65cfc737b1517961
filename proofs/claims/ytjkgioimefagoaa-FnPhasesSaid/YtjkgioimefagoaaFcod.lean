/- Contracts: the code of a rhythm, later; l04After. -/
import Derived.Test.YtjkgioimefagoaaPureQ
import Derived.Test.YtjkgioimefagoaaBits
import Derived.Outline
import Derived.Deep.RegionLaw
namespace Go.Proofs.Ytjkgioimefagoaa
open Go.RowKit
theorem ext_ofD {w w' : World} (h : Ext w.drew w') : Ext w w' := ⟨h.os, h.tape, h.output, h.size, h.block⟩
set_option maxRecDepth 100000 in
theorem code_c (n : Nat) (l : List Int) (v : Value) (w : World) (hv : Ints w v l) (hn : 1 ≤ n ∧ n ≤ 24) (hl : ∀ x ∈ l, 0 ≤ x ∧ x < n) (hlen : l.length ≤ n) : Calls Try.prog 33 #[.agg #[.int .i64 n, v]] w (RI (cod n l) w) := by
  obtain ⟨A, c, hve, _, _⟩ := hv.form0
  obtain ⟨m, hm⟩ : ∃ m, m = l.length := ⟨_, rfl⟩
  rw [← hm] at hve hlen
  subst hve
  have hx := one_box w (.cells #[.int .i64 (n : Int), .slice A m c] 25)
  have hr := RVar.new (T := 25) w (n : Int) (.slice A m c)
  have hc0 := hr.c0
  have hc1 := hr.c1
  have Hv := Lib.hid (hv.ext hx)
  have Hx := Lib.hid hx
  have Hl := Lib.hid hl
  have Hm := Lib.hid hm
  obtain ⟨hn1, hn24⟩ := hn
  clear hv hx hr hl hm
  go_enter Try.func33, Try.ntmps33
  go_wp2
  go_loop [3, 9] (fun o i => ∃ k q : Nat, k ≤ m ∧ q < 16777216 ∧ i = .int .i64 k ∧ o = .int .i64 q ∧ Hid (q = cod n (l.take k))) (fun _ i => m - (intOf i).toNat)
  case atStart => exact ⟨0, 0, Nat.zero_le _, by omega, rfl, rfl, rfl⟩
  case round =>
    obtain ⟨k, q, hk, hq, rfl, rfl, hgo⟩ := hrel
    by_cases hkm : k < m
    · obtain ⟨ad, c', hA, _, _⟩ := Hv.out.form (by rw [← Hm.out]; omega)
      injection hA with eA eB eC
      subst eA
      clear eB eC
      obtain ⟨x, hx⟩ : ∃ x, l[k]? = some x := ⟨_, List.getElem?_eq_getElem (by rw [← Hm.out]; exact hkm)⟩
      have hxr := Hl.out x (List.mem_of_getElem? hx)
      have hc := Hv.out.cell hx
      have hnew := cod_take (n := n) hx
      have hlt : cod n (l.take (k + 1)) < 16777216 := cod_lt _ hn1 hn24
      rw [hnew, ← hgo.out] at hlt
      rw [← hgo.out] at hnew
      obtain ⟨a, rfl⟩ : ∃ a : Nat, x = a := ⟨x.toNat, by omega⟩
      simp only [Int.toNat_natCast] at hnew hlt
      obtain ⟨s, hs⟩ : ∃ s, s = n - 1 - a := ⟨_, rfl⟩
      rw [← hs] at hnew hlt
      have hs1 : (n : Int) - 1 - (a : Int) = (s : Int) := by omega
      have hs2 : s ≤ 23 := by omega
      have hpl : 2 ^ s < 16777216 := Nat.pow_lt_pow_right (a := 2) (by decide) (show s < 24 by omega)
      have hor := i64_or q (2 ^ s) (by omega) (by omega)
      have hw : IntKind.i64.wrap ((2 : Int) ^ s) = ((2 ^ s : Nat) : Int) := by
        rw [show (2 : Int) ^ s = ((2 ^ s : Nat) : Int) by rw [Int.natCast_pow]; rfl]
        exact wrap_nat (by omega)
      have hor2 : bits .or .i64 (q : Int) ((2 : Int) ^ s) = ((q ||| 2 ^ s : Nat) : Int) := by
        rw [show (2 : Int) ^ s = ((2 ^ s : Nat) : Int) by rw [Int.natCast_pow]; rfl]
        exact hor
      have Hn := Lib.hid hnew.symm
      clear hx hnew hs
      go_wp2
      go_round
      case rel => exact ⟨k + 1, q ||| 2 ^ s, by omega, hlt, by go_num, rfl, Hn⟩
      case measure => simp [intOf]; omega
    · obtain rfl : k = m := by omega
      have H : Hid (q = cod n l) := by
        have := hgo.out
        rw [List.take_of_length_le (by rw [← Hm.out]; exact Nat.le_refl _)] at this
        exact this
      go_wp2
      go_ret
      exact ⟨by rw [← H.out]; rfl, Hx.out⟩
end Go.Proofs.Ytjkgioimefagoaa
