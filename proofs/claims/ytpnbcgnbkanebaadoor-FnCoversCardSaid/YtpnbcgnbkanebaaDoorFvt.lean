/- Contracts: math/bits.TrailingZeros with its table; laidBy. -/
import Derived.Shelf.Spec.TrailingZeros
import Derived.Test.YtpnbcgnbkanebaaDoorPureV
import Derived.Test.YtpnbcgnbkanebaaDoorFmir
namespace Go.Proofs.YtpnbcgnbkanebaaDoor
open Go.RowKit
theorem ctzFrom_pow (m : Nat) : ∀ (f t : Nat), t < f → Lib.ctzFrom f (2 ^ t * (2 * m + 1)) = t := by
  intro f
  induction f with
  | zero => intro t h; omega
  | succ f ih =>
    intro t h
    rw [Lib.ctzFrom]
    cases t with
    | zero => rw [if_pos (by simp)]
    | succ t =>
      have e : 2 ^ (t + 1) * (2 * m + 1) = 2 * (2 ^ t * (2 * m + 1)) := by rw [Nat.pow_succ, Nat.mul_comm (2 ^ t) 2, Nat.mul_assoc]
      rw [e, if_neg (by omega), Nat.mul_div_cancel_left _ (by decide), ih t (by omega)]
      omega
/-- the first time that is free -/
theorem tk_first {t s : Nat} (ht : t ≤ 24) (hs : s < 16777216) (hse : s % 2 = 0) : tk t s < 281474976710656 ∧ Lib.ctz 64 (18446744073709551615 - tk t s) = t := by
  have h1 := tk_eq t s
  have hp : 2 ^ t ≤ 2 ^ 24 := Nat.pow_le_pow_right (by decide) ht
  have hp0 := Nat.two_pow_pos t
  have h2 : (s + 1) * 2 ^ t ≤ 16777216 * 2 ^ t := Nat.mul_le_mul_right _ (by omega)
  have hlt : tk t s < 281474976710656 := by omega
  refine ⟨hlt, ?_⟩
  have hq : 2 ^ (64 - t) * 2 ^ t = 18446744073709551616 := by rw [← Nat.pow_add, show 64 - t + t = 64 by omega]
  have hq2 : 2 ^ (64 - t) = 2 * 2 ^ (63 - t) := by rw [show 64 - t = (63 - t) + 1 by omega, Nat.pow_succ, Nat.mul_comm]
  have hq3 : 2 ^ 39 ≤ 2 ^ (63 - t) := Nat.pow_le_pow_right (by decide) (by omega)
  have e : 18446744073709551615 - tk t s = 2 ^ t * (2 * (2 ^ (63 - t) - s / 2 - 1) + 1) := by
    have e1 : 2 * (2 ^ (63 - t) - s / 2 - 1) + 1 = 2 ^ (64 - t) - (s + 1) := by omega
    rw [e1, Nat.mul_comm, Nat.sub_mul, hq]
    omega
  unfold Lib.ctz
  rw [if_neg (by omega), e, ctzFrom_pow _ _ _ (by omega)]
set_option maxHeartbeats 1000000 in
theorem tz64_core (x k idx : Nat) (w : World) (hx0 : ((x : Int) == 0) = false)
    (key : IntKind.u64.wrap (bits BinOp.and IntKind.u64 (x : Int) (IntKind.u64.wrap (-(x : Int))) * 285870213051353865) / 288230376151711744 = (idx : Int))
    (hi : idx < 64) (hk : k < 64) (hcell : w.cell? ⟨1, idx, none⟩ = some (.int .u8 k)) : Calls Tryd.prog 49 #[.int .u64 x] w fun e w' => e = .returned (.int .i64 k) ∧ w = w' := by
  go_enter Tryd.func49, Tryd.ntmps49
  go_wp2_with (simp only [key])
  go_ret
  exact ⟨rfl, rfl⟩
theorem tz64_c (x : Nat) (hx : x < 18446744073709551616) (hx0 : x ≠ 0) (w : World) (hT : TabAt 1 Lib.deBruijn64tab w) : Calls Tryd.prog 49 #[.int .u64 x] w fun e w' => e = .returned (.int .i64 (Lib.ctz 64 x)) ∧ w = w' := by
  obtain ⟨hlow, hk⟩ := Lib.lowest_bit 64 x hx0 hx
  obtain ⟨hi, htab⟩ := Lib.deBruijn64_at _ hk
  have hcell := hT _ hi
  rw [htab] at hcell
  exact tz64_core x _ _ w (by simp; omega) (tz64_key x _ hx hx0 hlow) hi hk hcell
theorem tz_c (x : Nat) (hx : x < 18446744073709551616) (hx0 : x ≠ 0) (w : World) (hT : TabAt 1 Lib.deBruijn64tab w) : Calls Tryd.prog 41 #[.int .u64 x] w fun e w' => e = .returned (.int .i64 (Lib.ctz 64 x)) ∧ w = w' := by
  have HT := Lib.hid hT
  clear hT
  go_enter Tryd.func41, Tryd.ntmps41
  go_wp2_with (first | (go_at_call 49; refine (tz64_c x hx hx0 _ HT.out).mono ?_; rintro e w2 ⟨rfl, rfl⟩))
  go_ret
  exact ⟨rfl, rfl⟩
theorem Asc.ltV {lo hi : Int} {l : List Int} (h : Asc lo hi l) {k : Nat} {x : Int} (hx : l[k]? = some x) : ∀ {d : Nat} {y : Int}, l[k + d]? = some y → x ≤ y := by
  intro d
  induction d with
  | zero => intro y hy; rw [Nat.add_zero, hx] at hy; cases hy; exact Int.le_refl _
  | succ d ih =>
    intro y hy
    have hk := (List.getElem?_eq_some_iff.1 hy).1
    have hz : l[k + d]? = some l[k + d] := List.getElem?_eq_getElem (by omega)
    have h1 := ih hz
    have h2 := (h (k + (d + 1)) y hk hy).2.2 l[k + d] (by omega) hz
    omega
theorem Asc.le_lastV {lo hi : Int} {l : List Int} (h : Asc lo hi l) {k : Nat} {x : Int} (hx : l[k]? = some x) : x ≤ lastI l := by
  have hk := (List.getElem?_eq_some_iff.1 hx).1
  refine h.ltV hx (d := l.length - 1 - k) ?_
  rw [show k + (l.length - 1 - k) = l.length - 1 by omega]
  exact lastI_get (by omega)

/-- the times that an element takes -/
def lbL (p : List Int) (t k : Nat) : List Int := (if k = 1 then mirL p else p).map fun x => (t : Int) + x
set_option maxRecDepth 100000 in
set_option maxHeartbeats 1000000 in
theorem laidBy_add (p : List Int) (t k : Nat) (hk : k = 0 ∨ k = 1) (v : Value) (w : World) (hv : Ints w v p) (hp : PatOk p) (ht : t ≤ 24) : Calls Tryd.prog 32 #[v, .int .i64 ((2 * t + k : Nat) : Int)] w (RL (lbL p t k) w) := by
  have hlen := hp.len
  have hmem : ∀ x ∈ p, 0 ≤ x ∧ x ≤ 12 := fun x hx => hp.mem hx
  have hlast := hp.at_ (lastI_get hp.1)
  have Hp := Lib.hid hp
  have Hv := Lib.hid hv
  obtain ⟨cd, hcd⟩ : ∃ cd, cd = 2 * t + k := ⟨_, rfl⟩
  rw [← hcd]
  have hdv : (cd : Int) / 2 = (t : Int) := by omega
  have hb13 : p.length ≤ 13 := hlen.2
  clear hp hlen
  rcases hk with rfl | rfl
  · have hmd : (cd : Int) % 2 = 0 := by omega
    obtain ⟨A, c, hve, _, _⟩ := hv.form0
    obtain ⟨m, hm⟩ : ∃ m, m = p.length := ⟨_, rfl⟩
    rw [← hm] at hve hb13
    subst hve
    have Hm := Lib.hid hm
    have HQ := Lib.hid hv
    have Hq := Lib.hid hmem
    clear hm hv hmem hcd
    go_enter Tryd.func32, Tryd.ntmps32
    go_wp2
    clear hmd
    go_loopw [5, 15] (fun o i wr => ∃ j : Nat, j ≤ m ∧ i = .int .i64 j ∧ Hid (Own wr w.heap.size o ((p.take j).map fun x => (t : Int) + x) ∧ Ext w wr)) (fun _ i _ => m - (intOf i).toNat)
    case atStart => exact ⟨0, Nat.zero_le _, rfl, by simpa using Own.nil _ _, Below.refl _ _⟩
    case round =>
      obtain ⟨j, hj, rfl, hr⟩ := hrel
      by_cases hjm : j < m
      · obtain ⟨ad, cc, hA, _, _⟩ := HQ.out.form (by rw [← Hm.out]; omega)
        rw [← Hm.out] at hA
        obtain ⟨rfl, rfl⟩ : A = some ad ∧ c = cc := by simp only [Value.slice.injEq, true_and] at hA; exact hA
        obtain ⟨x, hx⟩ : ∃ x, p[j]? = some x := ⟨_, List.getElem?_eq_getElem (by rw [← Hm.out]; exact hjm)⟩
        have hcx := hr.out.2.cell_of (HQ.out.cell hx)
        have hxr := Hq.out x (List.mem_of_getElem? hx)
        have hjm2 : (j : Int) < (m : Int) := by omega
        have Hn : Hid ((p.take (j + 1)).map (fun x => (t : Int) + x) = (p.take j).map (fun x => (t : Int) + x) ++ [(t : Int) + x]) := by unfold Hid; rw [take_succ hx]; simp
        have hol : ((p.take j).map fun x => (t : Int) + x).length ≤ 13 := by rw [List.length_map, List.length_take]; omega
        have hsz := hr.out.2.size
        clear hx hA
        go_wp2_with (first | (at_builtin; refine wp_append1 rfl (.tmp 19) (.tmp 24) rfl rfl rfl hr.out.1 (by unfold I64; omega) (by omega) hsz ?_; intro v' w' ho hg hb hat))
        go_roundw
        case rel => first | exact ⟨j + 1, by omega, by go_num, by rw [Hn.out]; exact ho, hr.out.2.trans hb⟩ | ((repeat apply Exists.intro); exact ⟨⟨j + 1, by omega, by go_num, by rw [Hn.out]; exact ho, hr.out.2.trans hb⟩, rfl⟩)
        case measure => simp [intOf]; omega
      · obtain rfl : j = m := by omega
        have ho := hr.out.1
        rw [List.take_of_length_le (by rw [← Hm.out]; exact Nat.le_refl _)] at ho
        have Ho := Lib.hid ho
        clear ho
        go_wp2
        go_ret
        exact ⟨_, rfl, by unfold lbL; (first | rw [if_pos rfl] | rw [if_neg (by decide)]); exact Ho.out, hr.out.2⟩
  · have hmd : (cd : Int) % 2 = 1 := by omega
    obtain ⟨A0, c0, hve, _, _⟩ := hv.form0
    obtain ⟨m0, hm0⟩ : ∃ m0, m0 = p.length := ⟨_, rfl⟩
    rw [← hm0] at hve
    subst hve
    have Hq : Hid (∀ x ∈ mirL p, 0 ≤ x ∧ x ≤ 12) := fun x hx => by
      unfold mirL at hx
      rw [List.mem_map] at hx
      obtain ⟨y, hy, rfl⟩ := hx
      rw [List.mem_reverse] at hy
      have h1 := hmem y hy
      obtain ⟨i, hi, he⟩ := List.getElem_of_mem hy
      have h2 := Asc.le_lastV Hp.out.2.2 (List.getElem?_eq_getElem hi)
      omega
    have hb13' : (mirL p).length ≤ 13 := by rw [mirL_len]; exact hb13
    clear hm0 hv hmem hcd
    go_enter Tryd.func32, Tryd.ntmps32
    go_wp2_with (first | (go_at_call 35; refine (mirL_c p _ _ Hv.out Hp.out).mono ?_; rintro e w2 ⟨v2, rfl, ho2, hx2⟩; (obtain ⟨A, c, hv2, _, _⟩ := ho2.slice; obtain ⟨m, hm⟩ : ∃ m, m = (mirL p).length := ⟨_, rfl⟩; rw [← hm] at hv2 hb13'; subst hv2; have Hm := Lib.hid hm; have HQ := Lib.hid ho2.ints; clear hm)))
    go_loopw [5, 15] (fun o i wr => ∃ j : Nat, j ≤ m ∧ i = .int .i64 j ∧ Hid (Own wr w2.heap.size o (((mirL p).take j).map fun x => (t : Int) + x) ∧ Ext w2 wr)) (fun _ i _ => m - (intOf i).toNat)
    case atStart => exact ⟨0, Nat.zero_le _, rfl, by simpa using Own.nil _ _, Below.refl _ _⟩
    case round =>
      obtain ⟨j, hj, rfl, hr⟩ := hrel
      by_cases hjm : j < m
      · obtain ⟨ad, cc, hA, _, _⟩ := HQ.out.form (by rw [← Hm.out]; omega)
        rw [← Hm.out] at hA
        obtain ⟨rfl, rfl⟩ : A = some ad ∧ c = cc := by simp only [Value.slice.injEq, true_and] at hA; exact hA
        obtain ⟨x, hx⟩ : ∃ x, (mirL p)[j]? = some x := ⟨_, List.getElem?_eq_getElem (by rw [← Hm.out]; exact hjm)⟩
        have hcx := hr.out.2.cell_of (HQ.out.cell hx)
        have hxr := Hq.out x (List.mem_of_getElem? hx)
        have hjm2 : (j : Int) < (m : Int) := by omega
        have Hn : Hid (((mirL p).take (j + 1)).map (fun x => (t : Int) + x) = ((mirL p).take j).map (fun x => (t : Int) + x) ++ [(t : Int) + x]) := by unfold Hid; rw [take_succ hx]; simp
        have hol : (((mirL p).take j).map fun x => (t : Int) + x).length ≤ 13 := by rw [List.length_map, List.length_take]; omega
        have hsz := hr.out.2.size
        clear hx hA
        go_wp2_with (first | (at_builtin; refine wp_append1 rfl (.tmp 19) (.tmp 24) rfl rfl rfl hr.out.1 (by unfold I64; omega) (by omega) hsz ?_; intro v' w' ho hg hb hat))
        go_roundw
        case rel => first | exact ⟨j + 1, by omega, by go_num, by rw [Hn.out]; exact ho, hr.out.2.trans hb⟩ | ((repeat apply Exists.intro); exact ⟨⟨j + 1, by omega, by go_num, by rw [Hn.out]; exact ho, hr.out.2.trans hb⟩, rfl⟩)
        case measure => simp [intOf]; omega
      · obtain rfl : j = m := by omega
        have ho := hr.out.1
        rw [List.take_of_length_le (by rw [← Hm.out]; exact Nat.le_refl _)] at ho
        have Ho := Lib.hid ho
        clear ho
        go_wp2
        go_ret
        exact ⟨_, rfl, by unfold lbL; (first | rw [if_pos rfl] | rw [if_neg (by decide)]); exact Ho.out.base hx2.size, hx2.tr hr.out.2⟩
end Go.Proofs.YtpnbcgnbkanebaaDoor
