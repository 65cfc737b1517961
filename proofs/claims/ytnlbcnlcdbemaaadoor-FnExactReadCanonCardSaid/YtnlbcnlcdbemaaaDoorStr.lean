/- Words for slices of strings that came in; contracts of the laws' own szStringS, toStringS. -/
import Derived.Test.YtnlbcnlcdbemaaaDoorSss
import Derived.Test.YtnlbcnlcdbemaaaDoorGlue
import Derived.SliceStrings
namespace Go.Proofs.YtnlbcnlcdbemaaaDoor
open Go.ChangeShapes Go.WideShapes Go.ChangeAt Go.RowKit
/-- The value v is a slice of strings that reads as ss. -/
def Strs (w : World) (v : Value) (ss : List ByteArray) : Prop :=
  ∃ A c, v = .slice A ss.length c ∧ ss.length ≤ c ∧ c ≤ maxLen ∧ ∀ k s, ss[k]? = some s → s.size ≤ maxLen ∧ ∃ ad, A = some ad ∧ w.cell? (ad.add k) = some (.string s)
theorem Strs.ext {w w' : World} {v : Value} {ss : List ByteArray} (h : Strs w v ss) (hb : Ext w w') : Strs w' v ss := by
  obtain ⟨A, c, rfl, h1, h2, h3⟩ := h
  refine ⟨A, c, rfl, h1, h2, fun k x hx => ?_⟩
  obtain ⟨hi, ad, rfl, hc⟩ := h3 k x hx
  refine ⟨hi, ad, rfl, ?_⟩
  rw [hb.cell (World.block_lt_of_cell? w _ hc)]
  exact hc
set_option maxRecDepth 100000 in
theorem strs_in {H : Type} {enc : TypeId × Value → H} {W : World} {base : Nat} {v : Value} {d : DataW H} {p : List MemPlace}
    (hv : Value.okWide Tryd.prog W .any base 22 v) (h : DataW.Trod enc Tryd.prog W 0 (fun _ => true) true 22 v d p) : ∃ l, Strs W v l := by
  obtain ⟨a0, len0, cap0, rfl⟩ := okWide_slice Tryd.underlying22 hv
  obtain ⟨fuel, hf⟩ := h
  rcases open_strings Tryd.underlying22 Tryd.underlying9 (by kernel_rfl) hf with ⟨hcs, _⟩ | ⟨x, l, c, zs, hcs, _, hl, hm, hz, _, hcell, hwz⟩
  · simp [Value.cells] at hcs
    obtain ⟨rfl, rfl, rfl⟩ := hcs
    exact ⟨[], none, 0, rfl, Nat.le_refl _, Nat.zero_le _, fun k x hx => by simp at hx⟩
  · simp [Value.cells] at hcs
    obtain ⟨rfl, rfl, rfl⟩ := hcs
    simp only [if_true] at hz
    refine ⟨zs.take len0, some x, cap0, by rw [List.length_take, Nat.min_eq_left (by omega)], by rw [List.length_take]; omega, hm, fun k y hy => ?_⟩
    obtain ⟨hk, hy'⟩ := List.getElem?_eq_some_iff.1 hy
    have hk' : k < len0 := by simp at hk; omega
    rw [List.getElem_take] at hy'
    have hkz : k < zs.length := by omega
    refine ⟨hwz y (by rw [← hy']; exact List.getElem_mem _), x, rfl, ?_⟩
    rw [hcell k hkz]
    have : zs.getD k ByteArray.empty = y := by rw [← hy']; simp [List.getD, hkz]
    rw [this]
/-- how many strings and bytes there are up to the j-th -/
def totN (ss : List ByteArray) (j : Nat) : Nat := ss.length + ((ss.take j).map ByteArray.size).sum
theorem totN_zero (ss : List ByteArray) : totN ss 0 = ss.length := by simp [totN]
theorem totN_succ {ss : List ByteArray} {j : Nat} {s : ByteArray} (h : ss[j]? = some s) : totN ss (j + 1) = totN ss j + s.size := by
  unfold totN
  rw [takeT h, List.map_append, List.sum_append]
  simp
  omega
theorem totN_mono {ss : List ByteArray} {j k : Nat} (h : j ≤ k) : totN ss j ≤ totN ss k := by
  induction k with
  | zero => obtain rfl : j = 0 := by omega
            exact Nat.le_refl _
  | succ k ih =>
    by_cases e : j = k + 1
    · rw [e]; exact Nat.le_refl _
    · have h1 := ih (by omega)
      by_cases hk : k < ss.length
      · rw [totN_succ (List.getElem?_eq_getElem hk)]; omega
      · have : totN ss (k + 1) = totN ss k := by unfold totN; rw [List.take_of_length_le (by omega), List.take_of_length_le (by omega)]
        omega
theorem totN_size {ss : List ByteArray} {s : ByteArray} (h : s ∈ ss) : s.size ≤ totN ss ss.length := by
  obtain ⟨k, hk⟩ := List.getElem?_of_mem h
  have hl := (List.getElem?_eq_some_iff.1 hk).1
  have h1 := totN_succ hk
  have h2 := totN_mono (ss := ss) (show k + 1 ≤ ss.length by omega)
  omega
set_option maxRecDepth 100000 in
theorem szStringS_t (ss : List ByteArray) (v : Value) (w : World) (hv : Strs w v ss) (hle : totN ss ss.length ≤ 1048576) : Calls Tryd.prog 4 #[v, .int .i64 1048576] w fun e w' => e = .returned (.int .i64 (1048576 - (totN ss ss.length : Nat))) ∧ w = w' := by
  obtain ⟨A, c, hve, hlc, hcm, hcell⟩ := hv
  obtain ⟨q, hq⟩ : ∃ q, q = ss.length := ⟨_, rfl⟩
  rw [← hq] at hve hle
  subst hve
  have Hcell := Lib.hid hcell
  have Hq := Lib.hid hq
  have h0 : totN ss 0 = q := by rw [totN_zero, hq]
  have hq20 : q ≤ 1048576 := by have := totN_mono (ss := ss) (Nat.zero_le q); omega
  have Hle := Lib.hid hle
  have H0 := Lib.hid h0
  rw [← hq]
  have hqn : ¬ (1048576 : Int) - (q : Int) < 0 := by omega
  clear hcell hq h0 hle
  go_enter Tryd.func4, Tryd.ntmps4
  go_wp2
  go_loop [1, 5] (fun l i => ∃ j : Nat, j ≤ q ∧ i = .int .i64 j ∧ l = .int .i64 (1048576 - (totN ss j : Nat))) (fun _ i => q - (intOf i).toNat)
  case atStart => exact ⟨0, Nat.zero_le _, rfl, by rw [H0.out]⟩
  case round =>
    obtain ⟨j, hj, rfl, rfl⟩ := hrel
    by_cases hjq : j < q
    · obtain ⟨s, hs⟩ : ∃ s, ss[j]? = some s := ⟨_, List.getElem?_eq_getElem (by rw [← Hq.out]; exact hjq)⟩
      obtain ⟨hsz, ad, rfl, hc⟩ := Hcell.out j s hs
      have hn := totN_succ hs
      have hm := totN_mono (ss := ss) (show j + 1 ≤ q by omega)
      have hle := Hle.out
      obtain ⟨t, ht⟩ : ∃ t, t = totN ss j := ⟨_, rfl⟩
      obtain ⟨t2, ht2⟩ : ∃ t, t = totN ss (j + 1) := ⟨_, rfl⟩
      obtain ⟨tq, htq⟩ : ∃ t, t = totN ss q := ⟨_, rfl⟩
      rw [← ht2, ← htq] at hm
      rw [← htq] at hle
      rw [← ht, ← ht2] at hn
      rw [← ht]
      have Hn2 := Lib.hid ht2
      have hji : (j : Int) < (q : Int) := by omega
      have hne : (1048576 : Int) - (t : Int) - (s.size : Int) = 1048576 - (t2 : Int) := by omega
      have hnn : ¬ (1048576 : Int) - (t2 : Int) < 0 := by omega
      have Hn := Lib.hid hn
      clear hs ht ht2 htq hn
      go_wp2
      go_round
      case rel => exact ⟨j + 1, by omega, by go_num, by rw [← Hn2.out]⟩
      case measure => simp [intOf]; omega
    · obtain rfl : j = q := by omega
      go_wp2
      go_ret
      exact ⟨rfl, rfl⟩
set_option maxRecDepth 100000 in
theorem szStringS_f (ss : List ByteArray) (v : Value) (w : World) (hv : Strs w v ss) (hle : ¬ totN ss ss.length ≤ 1048576) : Calls Tryd.prog 4 #[v, .int .i64 1048576] w fun e w' => e = .returned (.int .i64 (-1)) ∧ w = w' := by
  obtain ⟨A, c, hve, hlc, hcm, hcell⟩ := hv
  obtain ⟨q, hq⟩ : ∃ q, q = ss.length := ⟨_, rfl⟩
  rw [← hq] at hve hle hlc
  subst hve
  have Hcell := Lib.hid hcell
  have Hq := Lib.hid hq
  have h0 : totN ss 0 = q := by rw [totN_zero, hq]
  have hqm : q ≤ 9223372036854775807 := by unfold maxLen at hcm; omega
  have Hle := Lib.hid hle
  have H0 := Lib.hid h0
  clear hcell hq h0 hle
  by_cases hq20 : q ≤ 1048576
  rotate_left
  · have hqn : (1048576 : Int) - (q : Int) < 0 := by omega
    go_enter Tryd.func4, Tryd.ntmps4
    go_wp2
    go_ret
    exact ⟨rfl, rfl⟩
  have hqn : ¬ (1048576 : Int) - (q : Int) < 0 := by omega
  go_enter Tryd.func4, Tryd.ntmps4
  go_wp2
  go_loop [1, 5] (fun l i => ∃ j : Nat, j ≤ q ∧ i = .int .i64 j ∧ l = .int .i64 (1048576 - (totN ss j : Nat)) ∧ totN ss j ≤ 1048576) (fun _ i => q - (intOf i).toNat)
  case atStart => exact ⟨0, Nat.zero_le _, rfl, by rw [H0.out], by rw [H0.out]; exact hq20⟩
  case round =>
    obtain ⟨j, hj, rfl, rfl, htj⟩ := hrel
    have hjq : j < q := by
      by_cases e : j = q
      · subst e; exact absurd htj Hle.out
      · omega
    obtain ⟨s, hs⟩ : ∃ s, ss[j]? = some s := ⟨_, List.getElem?_eq_getElem (by rw [← Hq.out]; exact hjq)⟩
    obtain ⟨hsz, ad, rfl, hc⟩ := Hcell.out j s hs
    have hn := totN_succ hs
    obtain ⟨t, ht⟩ : ∃ t, t = totN ss j := ⟨_, rfl⟩
    obtain ⟨t2, ht2⟩ : ∃ t, t = totN ss (j + 1) := ⟨_, rfl⟩
    rw [← ht, ← ht2] at hn
    rw [← ht] at htj ⊢
    have Hn2 := Lib.hid ht2
    have hji : (j : Int) < (q : Int) := by omega
    have hsz2 : s.size ≤ 9223372036854775807 := by unfold maxLen at hsz; omega
    have hne : (1048576 : Int) - (t : Int) - (s.size : Int) = 1048576 - (t2 : Int) := by omega
    have Hn := Lib.hid hn
    clear hs ht ht2 hsz hn
    by_cases hb : t2 ≤ 1048576
    · have hnn : ¬ (1048576 : Int) - (t2 : Int) < 0 := by omega
      go_wp2
      go_round
      case rel => exact ⟨j + 1, by omega, by go_num, by rw [← Hn2.out], by rw [← Hn2.out]; exact hb⟩
      case measure => simp [intOf]; omega
    · have hnn : (1048576 : Int) - (t2 : Int) < 0 := by omega
      go_wp2
      go_ret
      exact ⟨rfl, rfl⟩
theorem wp_makeStr {ops : Array Oper} {rest : List Oper} {o : Oper} {a : Act} {Q : Exit → Act → World → Prop} {w : World} (hgd : o.guard = none) (s : Operand)
    (ho : o.op = .makeSlice 22 s s) (n : Nat) (hs : a.eval s = .int .i64 n) (hn : n ≤ 1099511627776) {B : Nat} (hB : B ≤ w.heap.size)
    (h : ∀ w', Sss w' B (.slice (some ⟨w.heap.size, 0, none⟩) n n) (List.replicate n (.string ⟨#[]⟩)) (List.replicate n ⟨#[]⟩) → Ext w w' → wpList Tryd.prog ops Q rest (a.put o.dst (.slice (some ⟨w.heap.size, 0, none⟩) n n)) w') :
    wpList Tryd.prog ops Q (o :: rest) a w := by
  obtain ⟨i0, hi, hz0, hz1, hz2⟩ := info_parts Tryd.infoStr
  refine wpList_make_full w hgd s s 22 ho B 9 i0 (.string ⟨#[]⟩) 1 Tryd.underlying22 hi hz0 hz1 .i64 .i64 n n n hs hs rfl rfl (by rw [hz2]; omega) (by unfold maxLen; omega) hB ?_
  intro w' h1 h2
  refine h w' ⟨?_, by rw [List.map_replicate]⟩ ⟨h2.os, h2.tape, h2.output, h2.size, fun k hk => h2.block k hk (by simp)⟩
  have e : (madeCells (Value.cells (.string ⟨#[]⟩)) (n * 1)).toList = List.replicate n (Value.string ⟨#[]⟩) := by
    rw [Nat.mul_one]; exact toList_madeCells_one _ _
  rw [e] at h1
  rw [List.length_replicate]
  exact h1
theorem spad_get {ss : List ByteArray} {k : Nat} {s : ByteArray} (h : ss[k]? = some s) : (ss.take k ++ List.replicate (ss.length - k) (⟨#[]⟩ : ByteArray))[k]? = some ⟨#[]⟩ := by
  have hk : k < ss.length := (List.getElem?_eq_some_iff.1 h).1
  have e : (ss.take k).length = k := by simp; omega
  rw [List.getElem?_append_right (by omega), e, Nat.sub_self, List.getElem?_replicate, if_pos (by omega)]
theorem spad_set {ss : List ByteArray} {k : Nat} {s : ByteArray} (h : ss[k]? = some s) : (ss.take k ++ List.replicate (ss.length - k) (⟨#[]⟩ : ByteArray)).set k s = ss.take (k + 1) ++ List.replicate (ss.length - (k + 1)) ⟨#[]⟩ := by
  have hk : k < ss.length := (List.getElem?_eq_some_iff.1 h).1
  have e : (ss.take k).length = k := by simp; omega
  rw [List.set_append_right _ _ (by omega), e, Nat.sub_self, List.take_add_one, h, show ss.length - k = (ss.length - (k + 1)) + 1 by omega, List.replicate_succ]
  simp
set_option maxRecDepth 100000 in
theorem toStringS_c (ss : List ByteArray) (v : Value) (w : World) (hv : Strs w v ss) (hlen : ss.length ≤ 1099511627776) : Calls Tryd.prog 6 #[v] w (RSs ss w) := by
  obtain ⟨A, c, hve, hlc, hcm, hcell⟩ := hv
  obtain ⟨q, hq⟩ : ∃ q, q = ss.length := ⟨_, rfl⟩
  rw [← hq] at hve hlen
  subst hve
  have Hcell := Lib.hid hcell
  have Hq := Lib.hid hq
  clear hcell hq hlc
  go_enter Tryd.func6, Tryd.ntmps6
  go_wp2_with (at_make; refine wp_makeStr rfl (.tmp 6) rfl q rfl hlen (Nat.le_refl _) ?_; intro w1 hown1 hx1)
  go_loopw [4] (fun i wr => ∃ (k : Nat) (us : List Value), k ≤ q ∧ i = .int .i64 k ∧ Hid (us.length = q ∧ Sss wr w.heap.size (.slice (some ⟨w.heap.size, 0, none⟩) q q) us (ss.take k ++ List.replicate (ss.length - k) ⟨#[]⟩) ∧ Ext w wr)) (fun i _ => q - (intOf i).toNat)
  case atStart => exact ⟨0, _, Nat.zero_le _, rfl, List.length_replicate, by simpa [← Hq.out] using hown1, hx1⟩
  case round =>
    clear hown1 hx1
    obtain ⟨k, us, hk, rfl, hr⟩ := hrel
    by_cases hkq : k < q
    · obtain ⟨s, hs⟩ : ∃ s, ss[k]? = some s := ⟨_, List.getElem?_eq_getElem (by rw [← Hq.out]; exact hkq)⟩
      obtain ⟨hsz, ad, rfl, hc⟩ := Hcell.out k s hs
      have hki : (k : Int) < (q : Int) := by omega
      have hcr := hr.out.2.2.cell_of hc
      have hc0 := hr.out.2.1.cell (spad_get hs)
      have hf0 := hr.out.2.1.free k
      have hst := (hr.out.2.1.stored (k := k) s).1
      rw [spad_set hs] at hst
      have Hst := Lib.hid hst
      clear hs hst hc hsz
      go_wp2
      go_roundw
      case rel => exact ⟨k + 1, _, by omega, by go_num, by rw [List.length_set]; exact hr.out.1, Hst.out, hr.out.2.2.setCell (Nat.le_refl _) _⟩
      case measure => simp [intOf]; omega
    · obtain rfl : k = q := by omega
      have h1 := hr.out.2.1
      rw [Hq.out, List.take_length, Nat.sub_self] at h1
      have H1 := Lib.hid h1
      clear h1
      have hx := hr.out.2.2
      rw [show (k : Nat) = k from rfl]
      go_wp2
      go_ret
      exact ⟨_, us, rfl, by have := H1.out; simp only [List.replicate_zero, List.append_nil] at this; rw [Hq.out]; exact this, hx⟩
end Go.Proofs.YtnlbcnlcdbemaaaDoor
