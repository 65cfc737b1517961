/- Contracts: two lists of ints compared: slices.Equal at []int, l02Same. -/
import Derived.Test.YtjecdmlojgmbeaaGreatDoorFa
namespace Go.Proofs.YtjecdmlojgmbeaaGreatDoor
open Go.RowKit
theorem lawSame_c (l m : List Int) (v u : Value) (w : World) (hv : Ints w v l) (hu : Ints w u m) : Calls Tryz.prog 13 #[v, u] w (RB (l = m) w) := by
  have hvl := hv.len
  have hul := hu.len
  obtain ⟨A, c, rfl, hlc, hcm, hcell⟩ := hv
  have Hcell := Lib.hid hcell
  obtain ⟨A', c', rfl, hlc', hcm', hcell'⟩ := hu
  have Hcell' := Lib.hid hcell'
  clear hcell hcell'
  by_cases hlen : l.length = m.length
  · have hb : ((l.length : Int) != (m.length : Int)) = false := by simp [hlen]
    have Hlen := Lib.hid hlen
    have hle : m.length ≤ l.length ∧ l.length ≤ m.length := by omega
    clear hlen
    go_enter Tryz.func13, Tryz.ntmps13
    go_wp2
    go_loopw [14] (fun i wr => ∃ k : Nat, k ≤ l.length ∧ i = .int .i64 k ∧ Hid (l.take k = m.take k) ∧ Ext w wr) (fun i _ => l.length - (intOf i).toNat)
    case atStart => exact ⟨0, Nat.zero_le _, rfl, rfl, Below.refl _ _⟩
    case round =>
      obtain ⟨k, hk, rfl, heq, hxx⟩ := hrel
      rcases hx : l[k]? with _ | x
      · have h1 : l.length ≤ k := by have := List.getElem?_eq_none_iff.1 hx; omega
        clear hx
        go_wp2
        go_ret
        have := heq.out
        rw [List.take_of_length_le (by omega), List.take_of_length_le (by omega)] at this
        exact RB.t this hxx
      · obtain ⟨hxr, ad, hA, hc⟩ := Hcell.out k x hx
        have hkl : k < l.length := (List.getElem?_eq_some_iff.1 hx).1
        obtain ⟨y, hy⟩ : ∃ y, m[k]? = some y := ⟨_, List.getElem?_eq_getElem (by omega)⟩
        obtain ⟨hyr, ad', hA', hc'⟩ := Hcell'.out k y hy
        have hcr := hxx.cell_of hc
        have hcr' := hxx.cell_of hc'
        have hI : (k : Int) < (l.length : Int) ∧ (k : Int) < (m.length : Int) := by omega
        subst hA
        subst hA'
        by_cases hxy : x = y
        · have Hn : Hid (l.take (k + 1) = m.take (k + 1)) := by show l.take (k + 1) = _; rw [take_succ hx, take_succ hy, heq.out, hxy]
          have hb2 : ((x : Int) != y) = false := by simp [hxy]
          clear hx hy hc hc' hxy
          go_wp2
          go_roundw
          case rel => exact ⟨k + 1, by omega, by go_num, Hn, ⟨hxx.os, hxx.tape, hxx.output, hxx.size, hxx.block⟩⟩
          case measure => simp [intOf]; omega
        · have Hf : Hid (¬ l = m) := fun e => hxy (by rw [e, hy] at hx; cases hx; rfl)
          have hb2 : ((x : Int) != y) = true := by simp [hxy]
          clear hx hy hc hc' hxy
          go_wp2
          go_ret
          exact RB.f Hf.out ⟨hxx.os, hxx.tape, hxx.output, hxx.size, hxx.block⟩
  · have hb : ((l.length : Int) != (m.length : Int)) = true := by simp; omega
    have Hf : Hid (¬ l = m) := fun e => hlen (by rw [e])
    clear hlen
    go_enter Tryz.func13, Tryz.ntmps13
    go_wp2
    go_ret
    exact RB.f Hf.out (Below.refl _ _)

end Go.Proofs.YtjecdmlojgmbeaaGreatDoor
