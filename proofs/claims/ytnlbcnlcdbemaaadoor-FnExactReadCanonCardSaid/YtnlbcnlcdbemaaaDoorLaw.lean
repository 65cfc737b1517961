/- Contracts of the laws' own helpers on []int: toIntS, eqIntS, markIntS, heldIntS. -/
import Derived.Test.YtnlbcnlcdbemaaaDoorMem
namespace Go.Proofs.YtnlbcnlcdbemaaaDoor
open Go.RowKit


theorem eqIntS_c (l m : List Int) (v u : Value) (w : World) (hv : Ints w v l) (hu : Ints w u m) : Calls Tryd.prog 32 #[v, u] w (RB (l = m) w) := by
  have hvl := hv.len
  have hul := hu.len
  obtain ⟨A, c, rfl, hlc, hcm, hcell⟩ := hv
  have Hcell := Lib.hid hcell
  obtain ⟨A', c', rfl, hlc', hcm', hcell'⟩ := hu
  have Hcell' := Lib.hid hcell'
  clear hcell hcell'
  by_cases hlen : l.length = m.length
  · have hb : ((l.length : Int) != (m.length : Int)) = false := by simp [hlen]
    have Hlen := Lib.hid hlen
    have hle : m.length ≤ l.length ∧ l.length ≤ m.length := by omega
    clear hlen
    go_enter Tryd.func32, Tryd.ntmps32
    go_wp2
    go_loopw [5] (fun i wr => ∃ k : Nat, k ≤ l.length ∧ i = .int .i64 k ∧ Hid (l.take k = m.take k) ∧ Ext w wr) (fun i _ => l.length - (intOf i).toNat)
    case atStart => exact ⟨0, Nat.zero_le _, rfl, rfl, Below.refl _ _⟩
    case round =>
      obtain ⟨k, hk, rfl, heq, hxx⟩ := hrel
      rcases hx : l[k]? with _ | x
      · have h1 : l.length ≤ k := by have := List.getElem?_eq_none_iff.1 hx; omega
        clear hx
        go_wp2
        go_ret
        have := heq.out
        rw [List.take_of_length_le (by omega), List.take_of_length_le (by omega)] at this
        exact RB.t this hxx
      · obtain ⟨hxr, ad, hA, hc⟩ := Hcell.out k x hx
        have hkl : k < l.length := (List.getElem?_eq_some_iff.1 hx).1
        obtain ⟨y, hy⟩ : ∃ y, m[k]? = some y := ⟨_, List.getElem?_eq_getElem (by omega)⟩
        obtain ⟨hyr, ad', hA', hc'⟩ := Hcell'.out k y hy
        have hcr := hxx.cell_of hc
        have hcr' := hxx.cell_of hc'
        have hI : (k : Int) < (l.length : Int) ∧ (k : Int) < (m.length : Int) := by omega
        subst hA
        subst hA'
        by_cases hxy : x = y
        · have Hn : Hid (l.take (k + 1) = m.take (k + 1)) := by show l.take (k + 1) = _; rw [take_succ hx, take_succ hy, heq.out, hxy]
          have hb2 : ((x : Int) != y) = false := by simp [hxy]
          clear hx hy hc hc' hxy
          go_wp2
          go_quiet (fail)
          go_wp2
          go_roundw
          case rel => exact ⟨k + 1, by omega, by go_num, Hn, ⟨hxx.os, hxx.tape, hxx.output, hxx.size, hxx.block⟩⟩
          case measure => simp [intOf]; omega
        · have Hf : Hid (¬ l = m) := fun e => hxy (by rw [e, hy] at hx; cases hx; rfl)
          have hb2 : ((x : Int) != y) = true := by simp [hxy]
          clear hx hy hc hc' hxy
          go_wp2
          go_quiet (fail)
          go_wp2
          go_ret
          exact RB.f Hf.out ⟨hxx.os, hxx.tape, hxx.output, hxx.size, hxx.block⟩
  · have hb : ((l.length : Int) != (m.length : Int)) = true := by simp; omega
    have Hf : Hid (¬ l = m) := fun e => hlen (by rw [e])
    clear hlen
    go_enter Tryd.func32, Tryd.ntmps32
    go_wp2
    go_ret
    exact RB.f Hf.out (Below.refl _ _)

/-- k, k + 1, .. -/
def marks (k : Nat) (n : Nat) : List Int := (List.range' k n).map fun (i : Nat) => (i : Int)
theorem marks_get {k n i : Nat} (h : i < n) : (marks k n)[i]? = some ((k + i : Nat) : Int) := by
  simp [marks, List.getElem?_range' h]
theorem marks_length (k n : Nat) : (marks k n).length = n := by simp [marks]
theorem mark_set {l : List Int} {k i : Nat} (h : i < l.length) : (marks k i ++ l.drop i).set i ((k + i : Nat) : Int) = marks k (i + 1) ++ l.drop (i + 1) := by
  rw [List.set_append_right _ _ (by simp [marks_length]), marks_length, Nat.sub_self, List.drop_eq_getElem_cons h, List.set_cons_zero]
  simp [marks, List.range'_concat]

theorem markIntS_c (l : List Int) (k : Nat) (v : Value) (w : World) {B : Nat} (hv : Own w B v l) (hk0 : k ≤ 1099511627776) (hl0 : l.length ≤ 1099511627776) :
    Calls Tryd.prog 33 #[v, .int .i64 k] w fun e w' => e = .returned (.int .i64 ((k + l.length : Nat) : Int)) ∧ Own w' B v (marks k l.length) ∧ w.grownBy w' v.ownBlock := by
  obtain ⟨A, c, rfl, hlc, hcm⟩ := hv.slice
  go_enter Tryd.func33, Tryd.ntmps33
  go_wp2
  go_loopw [1, 5] (fun q i wr => ∃ j : Nat, j ≤ l.length ∧ i = .int .i64 j ∧ q = .int .i64 ((k + j : Nat) : Int) ∧ Hid (Own wr B (.slice A l.length c) (marks k j ++ l.drop j)) ∧ w.grownBy wr (Value.ownBlock (.slice A l.length c))) (fun _ i _ => l.length - (intOf i).toNat)
  case atStart => exact ⟨0, Nat.zero_le _, rfl, by go_num, by simpa [Hid, marks] using hv, World.grownBy.refl _ _⟩
  case round =>
    obtain ⟨j, hj, rfl, rfl, hown, hgr⟩ := hrel
    by_cases hjl : j < l.length
    · obtain ⟨g, cap, hv', hBg, hgs, _, _, _⟩ := hown.out.shape (by simp [marks_length]; omega)
      obtain ⟨rfl, hz, rfl⟩ : A = some ⟨g, 0, none⟩ ∧ l.length = _ ∧ c = cap := by simpa using hv'
      clear hz
      obtain ⟨x, hx⟩ : ∃ x, (marks k j ++ l.drop j)[j]? = some x := ⟨_, List.getElem?_eq_getElem (by simp [marks_length]; omega)⟩
      have hc0 := hown.out.cell hx
      have hf0 := hown.out.free j
      have hst := hown.out.stored j (x := ((k + j : Nat) : Int)) (by unfold I64; omega)
      rw [mark_set hjl] at hst
      have Hst := Lib.hid hst
      clear hx hst hv'
      go_wp2
      go_roundw
      case rel => exact ⟨j + 1, by omega, by go_num, by go_num, Hst.out.1, grownBy_tr hgr Hst.out.2⟩
      case measure => simp [intOf]; omega
    · have Hj : Hid (j = l.length) := by show j = _; omega
      go_wp2
      go_ret
      have e := Hj.out
      have h1 := hown.out
      rw [e, List.drop_of_length_le (Nat.le_refl _), List.append_nil] at h1
      rw [e]
      exact ⟨rfl, h1, hgr⟩

theorem heldIntS_c (n k : Nat) (v : Value) (w : World) (hv : Ints w v (marks k n)) (hk0 : k ≤ 1099511627776) (hl0 : n ≤ 1099511627776) :
    Calls Tryd.prog 34 #[v, .int .i64 k] w fun e w' => e = .returned (.int .i64 ((k + n : Nat) : Int)) ∧ w = w' := by
  obtain ⟨A, c, rfl, hlc, hcm, hcell⟩ := hv
  rw [marks_length] at *
  have Hcell := Lib.hid hcell
  clear hcell
  go_enter Tryd.func34, Tryd.ntmps34
  go_wp2
  go_loop [1, 5] (fun q i => ∃ j : Nat, j ≤ n ∧ i = .int .i64 j ∧ q = .int .i64 ((k + j : Nat) : Int)) (fun _ i => n - (intOf i).toNat)
  case atStart => exact ⟨0, Nat.zero_le _, rfl, by go_num⟩
  case round =>
    obtain ⟨j, hj, rfl, rfl⟩ := hrel
    by_cases hjl : j < n
    · obtain ⟨_, ad, hA, hc⟩ := Hcell.out j _ (marks_get hjl)
      subst hA
      have hb : (((k + j : Nat) : Int) != ((k + j : Nat) : Int)) = false := by simp
      have hb2 : ((k : Int) + (j : Int) != (k : Int) + (j : Int)) = false := by simp
      go_wp2
      go_round
      case rel => exact ⟨j + 1, by omega, by go_num, by go_num⟩
      case measure => simp [intOf]; omega
    · have Hj : Hid (j = n) := by show j = _; omega
      go_wp2
      go_ret
      rw [Hj.out]
      exact ⟨rfl, rfl⟩

def MarkPost (l : List Int) (k : Nat) (B : Nat) (v : Value) (w : World) (e : Ending) (w' : World) : Prop :=
  ∃ q : Nat, e = .returned (.int .i64 q) ∧ Hid (q = k + l.length) ∧ q ≤ k + l.length ∧ Own w' B v (marks k l.length) ∧ w.grownBy w' v.ownBlock
theorem markIntS_q (l : List Int) (k : Nat) (v : Value) (w : World) {B : Nat} (hv : Own w B v l) (hk0 : k ≤ 1099511627776) (hl0 : l.length ≤ 1099511627776) :
    Calls Tryd.prog 33 #[v, .int .i64 k] w (MarkPost l k B v w) :=
  (markIntS_c l k v w hv hk0 hl0).mono fun _ _ ⟨he, h1, h2⟩ => ⟨_, he, rfl, Nat.le_refl _, h1, h2⟩
def HeldPost (n : Nat) (k : Nat) (w : World) (e : Ending) (w' : World) : Prop := ∃ q : Nat, e = .returned (.int .i64 q) ∧ Hid (q = k + n) ∧ q ≤ k + n ∧ w = w'
theorem heldIntS_q (n k : Nat) (v : Value) (w : World) (hv : Ints w v (marks k n)) (hk0 : k ≤ 1099511627776) (hl0 : n ≤ 1099511627776) :
    Calls Tryd.prog 34 #[v, .int .i64 k] w (HeldPost n k w) :=
  (heldIntS_c n k v w hv hk0 hl0).mono fun _ _ ⟨he, h1⟩ => ⟨_, he, rfl, Nat.le_refl _, h1⟩
theorem one_nat : (1 : Int) = ((1 : Nat) : Int) := rfl
end Go.Proofs.YtnlbcnlcdbemaaaDoor
