/- Contracts: slices.Clone, slices.Sort, slices.Compact at []int in this seat's words; collected, remainder, rhythmOf. -/
import Derived.Test.YtjecdmlojgmbeaaGreatDoorRhy
import Derived.Test.YtjecdmlojgmbeaaGreatDoorPureC
import Derived.Test.YtjecdmlojgmbeaaGreatDoorShelf
import Derived.Sort.OwnSorted
import Derived.Sort.Grow
import Derived.Lib.OwnBridge
import Derived.Lib.RowBridge
namespace Go.Proofs.YtjecdmlojgmbeaaGreatDoor
open Go.RowKit Go.Sort

/-- an address behind which ints can be read has no spot -/
theorem Ints.plain {w : World} {ad : Addr} {n c : Nat} {l : List Int} (h : Ints w (.slice (some ad) n c) l) (hl : 0 < l.length) : ∃ b o, ad = ⟨b, o, none⟩ ∧ ∀ j, j < l.length → w.cell? ⟨b, o + j, none⟩ = some (.int .i64 (l.getD j 0)) := by
  have h0 := h.cell (get_of_lt hl)
  obtain ⟨b, o, sp⟩ := ad
  have hsp : sp = none := by simpa [Addr.add] using World.cell?_spot h0
  subst hsp
  refine ⟨b, o, rfl, fun j hj => ?_⟩
  have := h.cell (get_of_lt hj)
  rw [← this]
  congr 1
  unfold Addr.add
  split <;> simp_all
theorem ext_grow (w : World) (os : Array Obj) : Ext w (grow w os) := ⟨rfl, rfl, rfl, by simp [grow], fun k hk => by simp [grow, Array.getElem?_append, hk]⟩
theorem grown_put {w : World} {g n : Nat} (d : Array Int) : w.grownBy (putRow (Value.int .i64) (Sort.ahead w n) g 0 d) (some g) := by
  refine ⟨rfl, rfl, rfl, by simp [putRow, mapBlock, Sort.ahead], fun k hk hne => ?_⟩
  have : g ≠ k := fun e => hne (by rw [e])
  simp [putRow, mapBlock, Sort.ahead, Array.getElem?_modify, this]
theorem own_put {w : World} {B g L c q k : Nat} {l ys : List Int} (h : Own w B (.slice (some ⟨g, 0, none⟩) L c) l) (hy : ys.length = l.length) (hk : k ≤ l.length) (hr : ∀ x ∈ ys, I64 x) :
    Own (putRow (Value.int .i64) (Sort.ahead w q) g 0 ys.toArray) B (.slice (some ⟨g, 0, none⟩) k c) (ys.take k) := by
  have hn := h.n_eq
  subst hn
  have := Lib.ownsRow_putRow (q := q) (ys := ys) (k := k) h.1 hy hk
  refine ⟨?_, fun x hx => hr x (List.mem_of_mem_take hx)⟩
  rw [List.length_take, hy, Nat.min_eq_left hk]
  exact this
/-- What a callee leaves that turns a row of the caller's in place. -/
def RIP (l : List Int) (B : Nat) (v : Value) (w : World) (e : Ending) (w' : World) : Prop := e = .returned (.tuple #[]) ∧ Own w' B v l ∧ w.grownBy w' v.ownBlock
def RSub (l : List Int) (B : Nat) (v : Value) (w : World) (e : Ending) (w' : World) : Prop := ∃ v', e = .returned v' ∧ Own w' B v' l ∧ w.grownBy w' v.ownBlock ∧ ∀ k, v'.ownBlock = some k → v.ownBlock = some k
set_option maxRecDepth 100000 in
theorem slClone_c (l : List Int) (v : Value) (w : World) (hv : Ints w v l) (hlen : l.length ≤ 1000000000) : Calls Tryz.prog 74 #[v] w (RL l w) := by
  have hr : ∀ x ∈ l, I64 x := fun x hx => hv.i64 hx
  obtain ⟨A, c, hve, _, _⟩ := hv.form0
  by_cases h0 : l.length = 0
  · have hl : l = [] := List.eq_nil_of_length_eq_zero h0
    subst hl
    subst hve
    cases A with
    | none => exact (Tryz.slices_Clone_int_nil 0 c w).mono fun e w' ⟨he, hw⟩ => ⟨_, he, Own.nil _ _, by rw [hw]; exact Below.refl _ _⟩
    | some a => exact (Tryz.slices_Clone_int_zero a c w).mono fun e w' ⟨v', he, ho, _, hb⟩ => ⟨v', he, ⟨ho, hr⟩, hb⟩
  · obtain ⟨ad, c', hve2, _, _⟩ := hv.form (by omega)
    subst hve2
    obtain ⟨b, o, rfl, hc⟩ := hv.plain (by omega)
    refine (Tryz.slices_Clone_int b o l.length c' l w (Nat.le_refl _) (by omega) hc).mono fun e w' ⟨v', he, ho, _, hb⟩ => ⟨v', he, ⟨?_, hr⟩, hb⟩
    rw [List.take_length] at ho
    exact ho
set_option maxRecDepth 100000 in
theorem slSort_c (l : List Int) (v : Value) (w : World) {B : Nat} (hv : Own w B v l) (hlen : l.length ≤ 1000000000) : Calls Tryz.prog 75 #[v] w (RIP (sortL l) B v w) := by
  by_cases h0 : l.length = 0
  · have hl : l = [] := List.eq_nil_of_length_eq_zero h0
    subst hl
    obtain ⟨A, c, rfl, _, _⟩ := hv.slice
    exact (Tryz.slices_Sort_int_none A c w).mono fun e w' ⟨he, hw⟩ => ⟨he, by rw [hw, show sortL [] = [] by simp [sortL]]; exact hv, by rw [hw]; exact World.grownBy.refl _ _⟩
  · obtain ⟨g, c, rfl, hB, hg, hlc, hcell, hfree⟩ := hv.shape (by omega)
    have hH : Holds (Value.int .i64) w g 0 l.toArray := fun j hj => by
      have hj' : j < l.length := by simpa using hj
      refine ⟨?_, hfree _⟩
      rw [Nat.zero_add, hcell j l[j] (List.getElem?_eq_getElem hj')]
      simp [hj']
    refine (Tryz.slices_Sort_int g 0 c l w hH hg (by omega)).mono fun e w' ⟨he, n, os, hw⟩ => ⟨he, ?_, ?_⟩
    · have h1 := own_put (q := n) (ys := sortL l) (k := l.length) hv (sortL_len l) (Nat.le_refl _) (fun x hx => hv.2 x (mem_sortL.1 hx))
      rw [List.take_of_length_le (by rw [sortL_len]; exact Nat.le_refl _)] at h1
      rw [hw]
      exact h1.ext (ext_grow _ _)
    · rw [hw]
      exact grownBy_tr (grown_put _) (grownBy_of_ext (ext_grow _ _) _)
set_option maxRecDepth 100000 in
theorem slCompact_c (l : List Int) (v : Value) (w : World) {B : Nat} (hv : Own w B v l) (hlen : l.length ≤ 1000000000) : Calls Tryz.prog 76 #[v] w (RSub (Lib.compact l) B v w) := by
  by_cases h0 : l.length = 0
  · have hl : l = [] := List.eq_nil_of_length_eq_zero h0
    subst hl
    obtain ⟨A, c, rfl, _, _⟩ := hv.slice
    exact (Tryz.slices_Compact_int_empty A c w).mono fun e w' ⟨he, hw⟩ => ⟨_, he, by rw [hw]; exact hv, by rw [hw]; exact World.grownBy.refl _ _, fun k hk => hk⟩
  · obtain ⟨g, c, rfl, hB, hg, hlc, hcell, hfree⟩ := hv.shape (by omega)
    have hH : Holds (Value.int .i64) w g 0 l.toArray := fun j hj => by
      have hj' : j < l.length := by simpa using hj
      refine ⟨?_, hfree _⟩
      rw [Nat.zero_add, hcell j l[j] (List.getElem?_eq_getElem hj')]
      simp [hj']
    have hcl := Lib.compact_length_le l
    refine (Tryz.slices_Compact_int g 0 c l w hH (by omega) hlc).mono fun e w' ⟨he, q, hw⟩ => ⟨_, he, ?_, ?_, fun k hk => hk⟩
    · have h1 := own_put (q := q) (ys := Lib.compact l ++ List.replicate (l.length - (Lib.compact l).length) 0) (k := (Lib.compact l).length) hv (by simp; omega) hcl (fun x hx => by
        rcases List.mem_append.1 hx with h | h
        · unfold Lib.compact Lib.compactUpTo at h
          rw [List.mem_map] at h
          obtain ⟨j, hj, rfl⟩ := h
          rw [List.mem_filter, List.mem_range] at hj
          rw [getB_eq hj.1]
          exact hv.2 _ (List.getElem_mem _)
        · rw [List.mem_replicate] at h; rw [h.2]; unfold I64; omega)
      rw [List.take_left] at h1
      rw [hw]
      exact h1
    · rw [hw]
      exact grown_put _
set_option maxRecDepth 100000 in
theorem collected_c (l : List Int) (v : Value) (w : World) (hv : Ints w v l) (hlen : l.length ≤ 1000000000) : Calls Tryz.prog 65 #[v] w (RL (colL l) w) := by
  have hl2 := sortL_len l
  have Hl2 := Lib.hid hl2
  clear hl2
  go_enter Tryz.func65, Tryz.ntmps65
  go_wp2_with (first | (go_at_call 74; refine (slClone_c l _ _ hv (by omega)).mono ?_; rintro e w1 ⟨v1, rfl, ho1, hx1⟩) | (go_at_call 75; refine (slSort_c l _ _ ho1 (by omega)).mono ?_; rintro e w2 ⟨rfl, ho2, hg2⟩) | (go_at_call 76; refine (slCompact_c (sortL l) _ _ ho2 (by have := Hl2.out; omega)).mono ?_; rintro e w3 ⟨v3, rfl, ho3, hg3, hat⟩))
  go_ret
  refine ⟨_, rfl, ho3, ?_⟩
  exact hx1.grown (grownBy_tr hg2 hg3) hx1.size fun k hk => (ho1.lt k hk).1
end Go.Proofs.YtjecdmlojgmbeaaGreatDoor
