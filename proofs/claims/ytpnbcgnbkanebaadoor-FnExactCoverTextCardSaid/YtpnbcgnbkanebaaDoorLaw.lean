/- Contracts of the laws' own helpers on []int: toIntS, eqIntS, markIntS, heldIntS. -/
import Derived.Test.YtpnbcgnbkanebaaDoorMem
namespace Go.Proofs.YtpnbcgnbkanebaaDoor
open Go.RowKit

theorem toIntS_c (l : List Int) (v : Value) (w : World) (hv : Ints w v l) (hlen : l.length ≤ 1099511627776) : Calls Tryd.prog 7 #[v] w (RL l w) := by
  obtain ⟨A, c, rfl, hlc, hcm, hcell⟩ := hv
  have Hcell := Lib.hid hcell
  have hv : Ints w (.slice A l.length c) l := ⟨A, c, rfl, hlc, hcm, hcell⟩
  have Hv := Lib.hid hv
  clear hcell hv
  go_enter Tryd.func7, Tryd.ntmps7
  go_wp2_with (at_make; refine wp_make1 rfl (.tmp 6) rfl l.length rfl hlen (Nat.le_refl _) ?_; intro w1 hown1 hx1)
  go_loopw [4] (fun i wr => ∃ k : Nat, k ≤ l.length ∧ i = .int .i64 k ∧ Hid (Own wr w.heap.size (.slice (some ⟨w.heap.size, 0, none⟩) l.length l.length) (l.take k ++ List.replicate (l.length - k) 0)) ∧ Ext w wr) (fun i _ => l.length - (intOf i).toNat)
  case atStart => exact ⟨0, Nat.zero_le _, rfl, by simpa [Hid] using hown1, hx1⟩
  case round =>
    obtain ⟨k, hk, rfl, hown, hx⟩ := hrel
    rcases hx : l[k]? with _ | x
    · have h1 : l.length ≤ k := by have := List.getElem?_eq_none_iff.1 hx; omega
      have Hk : Hid (k = l.length) := by show k = _; omega
      clear hx
      go_wp2
      go_ret
      have := hown.out
      rw [Hk.out] at this
      exact ⟨_, rfl, by simpa using this, by assumption⟩
    · rename_i hxx
      obtain ⟨hxr, ad, hA, hc⟩ := Hcell.out k x hx
      have hkl : k < l.length := (List.getElem?_eq_some_iff.1 hx).1
      have hcr := hxx.cell_of hc
      have hc0 := hown.out.cell (take_pad_get hx)
      have hf0 := hown.out.free k
      have hst := (hown.out.stored k hxr)
      rw [take_pad_set hx] at hst
      have Hst := Lib.hid hst
      subst hA
      clear hx hc hst
      go_wp2
      go_roundw
      case rel => exact ⟨k + 1, by omega, by go_num, Hst.out.1, hxx.setCell (Nat.le_refl _) _⟩
      case measure => simp [intOf]; omega

theorem eqIntS_c (l m : List Int) (v u : Value) (w : World) (hv : Ints w v l) (hu : Ints w u m) : Calls Tryd.prog 9 #[v, u] w (RB (l = m) w) := by
  have hvl := hv.len
  have hul := hu.len
  obtain ⟨A, c, rfl, hlc, hcm, hcell⟩ := hv
  have Hcell := Lib.hid hcell
  obtain ⟨A', c', rfl, hlc', hcm', hcell'⟩ := hu
  have Hcell' := Lib.hid hcell'
  clear hcell hcell'
  by_cases hlen : l.length = m.length
  · have hb : ((l.length : Int) != (m.length : Int)) = false := by simp [hlen]
    have Hlen := Lib.hid hlen
    have hle : m.length ≤ l.length ∧ l.length ≤ m.length := by omega
    clear hlen
    go_enter Tryd.func9, Tryd.ntmps9
    go_wp2
    go_loopw [5] (fun i wr => ∃ k : Nat, k ≤ l.length ∧ i = .int .i64 k ∧ Hid (l.take k = m.take k) ∧ Ext w wr) (fun i _ => l.length - (intOf i).toNat)
    case atStart => exact ⟨0, Nat.zero_le _, rfl, rfl, Below.refl _ _⟩
    case round =>
      obtain ⟨k, hk, rfl, heq, hxx⟩ := hrel
      rcases hx : l[k]? with _ | x
      · have h1 : l.length ≤ k := by have := List.getElem?_eq_none_iff.1 hx; omega
        clear hx
        go_wp2
        go_ret
        have := heq.out
        rw [List.take_of_length_le (by omega), List.take_of_length_le (by omega)] at this
        exact RB.t this hxx
      · obtain ⟨hxr, ad, hA, hc⟩ := Hcell.out k x hx
        have hkl : k < l.length := (List.getElem?_eq_some_iff.1 hx).1
        obtain ⟨y, hy⟩ : ∃ y, m[k]? = some y := ⟨_, List.getElem?_eq_getElem (by omega)⟩
        obtain ⟨hyr, ad', hA', hc'⟩ := Hcell'.out k y hy
        have hcr := hxx.cell_of hc
        have hcr' := hxx.cell_of hc'
        have hI : (k : Int) < (l.length : Int) ∧ (k : Int) < (m.length : Int) := by omega
        subst hA
        subst hA'
        by_cases hxy : x = y
        · have Hn : Hid (l.take (k + 1) = m.take (k + 1)) := by show l.take (k + 1) = _; rw [take_succ hx, take_succ hy, heq.out, hxy]
          have hb2 : ((x : Int) != y) = false := by simp [hxy]
          clear hx hy hc hc' hxy
          go_wp2
          go_quiet (fail)
          go_wp2
          go_roundw
          case rel => exact ⟨k + 1, by omega, by go_num, Hn, ⟨hxx.os, hxx.tape, hxx.output, hxx.size, hxx.block⟩⟩
          case measure => simp [intOf]; omega
        · have Hf : Hid (¬ l = m) := fun e => hxy (by rw [e, hy] at hx; cases hx; rfl)
          have hb2 : ((x : Int) != y) = true := by simp [hxy]
          clear hx hy hc hc' hxy
          go_wp2
          go_quiet (fail)
          go_wp2
          go_ret
          exact RB.f Hf.out ⟨hxx.os, hxx.tape, hxx.output, hxx.size, hxx.block⟩
  · have hb : ((l.length : Int) != (m.length : Int)) = true := by simp; omega
    have Hf : Hid (¬ l = m) := fun e => hlen (by rw [e])
    clear hlen
    go_enter Tryd.func9, Tryd.ntmps9
    go_wp2
    go_ret
    exact RB.f Hf.out (Below.refl _ _)

/-- k, k + 1, .. -/
def marks (k : Nat) (n : Nat) : List Int := (List.range' k n).map fun (i : Nat) => (i : Int)
theorem marks_get {k n i : Nat} (h : i < n) : (marks k n)[i]? = some ((k + i : Nat) : Int) := by
  simp [marks, List.getElem?_range' h]
theorem marks_length (k n : Nat) : (marks k n).length = n := by simp [marks]
theorem mark_set {l : List Int} {k i : Nat} (h : i < l.length) : (marks k i ++ l.drop i).set i ((k + i : Nat) : Int) = marks k (i + 1) ++ l.drop (i + 1) := by
  rw [List.set_append_right _ _ (by simp [marks_length]), marks_length, Nat.sub_self, List.drop_eq_getElem_cons h, List.set_cons_zero]
  simp [marks, List.range'_concat]

def MarkPost (l : List Int) (k : Nat) (B : Nat) (v : Value) (w : World) (e : Ending) (w' : World) : Prop :=
  ∃ q : Nat, e = .returned (.int .i64 q) ∧ Hid (q = k + l.length) ∧ q ≤ k + l.length ∧ Own w' B v (marks k l.length) ∧ w.grownBy w' v.ownBlock
def HeldPost (n : Nat) (k : Nat) (w : World) (e : Ending) (w' : World) : Prop := ∃ q : Nat, e = .returned (.int .i64 q) ∧ Hid (q = k + n) ∧ q ≤ k + n ∧ w = w'
theorem one_nat : (1 : Int) = ((1 : Nat) : Int) := rfl
end Go.Proofs.YtpnbcgnbkanebaaDoor
