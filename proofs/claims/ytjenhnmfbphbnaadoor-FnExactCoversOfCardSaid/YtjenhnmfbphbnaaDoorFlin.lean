/- Contracts: the machine that lays a pattern on a line: newLine, lay; l13Mask, l13Step. -/
import Derived.Test.YtjenhnmfbphbnaaDoorFa
import Derived.Test.YtjenhnmfbphbnaaDoorPureL
import Derived.Test.YtjenhnmfbphbnaaDoorBlk
namespace Go.Proofs.YtjenhnmfbphbnaaDoor
open Go.RowKit

theorem l13Mask_c (l : List Int) (v : Value) (w : World) (hv : Ints w v l) (hp : PatOk l) : Calls Tryd.prog 53 #[v] w fun e w' => e = .returned (.int .i64 (maskN l)) ∧ w = w' := by
  have hlen := hp.len
  obtain ⟨ad, c, rfl, hlc, hcm⟩ := hv.form hp.1
  have Hv := Lib.hid hv
  have Hp := Lib.hid hp
  clear hp hv
  go_enter Tryd.func53, Tryd.ntmps53
  go_wp2
  go_loop [3, 8] (fun o i => ∃ k m : Nat, k ≤ l.length ∧ m < 8192 ∧ i = .int .i64 k ∧ o = .int .i64 m ∧ Hid (m = pm l k)) (fun _ i => l.length - (intOf i).toNat)
  case atStart => exact ⟨0, 0, by omega, by omega, rfl, rfl, (pm_zero l).symm⟩
  case round =>
    obtain ⟨k, m, hk, hm, rfl, rfl, hpm⟩ := hrel
    by_cases hkl : k < l.length
    · obtain ⟨x, hx⟩ : ∃ x, l[k]? = some x := ⟨_, List.getElem?_eq_getElem (by omega)⟩
      have hx12 := Hp.out.at_ hx
      obtain ⟨n, rfl⟩ := Int.eq_ofNat_of_zero_le hx12.1
      have hc := Hv.out.cell hx
      have hpl : 2 ^ n ≤ 2 ^ 12 := Nat.pow_le_pow_right (by decide) (by omega)
      have hpow : (2 : Int) ^ n = ((2 ^ n : Nat) : Int) := by rw [Int.natCast_pow]; rfl
      have hw : IntKind.i64.wrap ((2 : Int) ^ n) = ((2 ^ n : Nat) : Int) := by rw [hpow]; exact wrap_nat (by omega)
      have Hn : Hid (m + 2 ^ n = pm l (k + 1)) := by unfold Hid; rw [pm_succ hx, hpm.out]; simp
      have hnl : m + 2 ^ n < 8192 := by rw [Hn.out]; exact pm_le Hp.out (by omega)
      clear hx hpow
      generalize 2 ^ n = z at *
      go_wp2
      go_round
      case rel => exact ⟨k + 1, m + z, by omega, hnl, by go_num, by go_num, Hn⟩
      case measure => simp [intOf]; omega
    · have Hk : Hid (k = l.length) := by show k = _; omega
      go_wp2
      go_ret
      rw [hpm.out, Hk.out]
      exact ⟨rfl, rfl⟩

end Go.Proofs.YtjenhnmfbphbnaaDoor
