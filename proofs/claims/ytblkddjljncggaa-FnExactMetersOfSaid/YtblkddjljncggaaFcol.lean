/- Contracts: slices.Clone, slices.Sort, slices.Compact at []int in this seat's words; collected, remainder, rhythmOf. -/
import Derived.Test.YtblkddjljncggaaRhy
import Derived.Test.YtblkddjljncggaaPureC
import Derived.Test.YtblkddjljncggaaShelf
import Derived.Sort.OwnSorted
import Derived.Sort.Grow
import Derived.Lib.OwnBridge
import Derived.Lib.RowBridge
namespace Go.Proofs.Ytblkddjljncggaa
open Go.RowKit Go.Sort

/-- an address behind which ints can be read has no spot -/
theorem Ints.plain {w : World} {ad : Addr} {n c : Nat} {l : List Int} (h : Ints w (.slice (some ad) n c) l) (hl : 0 < l.length) : ∃ b o, ad = ⟨b, o, none⟩ ∧ ∀ j, j < l.length → w.cell? ⟨b, o + j, none⟩ = some (.int .i64 (l.getD j 0)) := by
  have h0 := h.cell (get_of_lt hl)
  obtain ⟨b, o, sp⟩ := ad
  have hsp : sp = none := by simpa [Addr.add] using World.cell?_spot h0
  subst hsp
  refine ⟨b, o, rfl, fun j hj => ?_⟩
  have := h.cell (get_of_lt hj)
  rw [← this]
  congr 1
  unfold Addr.add
  split <;> simp_all
theorem ext_grow (w : World) (os : Array Obj) : Ext w (grow w os) := ⟨rfl, rfl, rfl, by simp [grow], fun k hk => by simp [grow, Array.getElem?_append, hk]⟩
theorem grown_put {w : World} {g n : Nat} (d : Array Int) : w.grownBy (putRow (Value.int .i64) (Sort.ahead w n) g 0 d) (some g) := by
  refine ⟨rfl, rfl, rfl, by simp [putRow, mapBlock, Sort.ahead], fun k hk hne => ?_⟩
  have : g ≠ k := fun e => hne (by rw [e])
  simp [putRow, mapBlock, Sort.ahead, Array.getElem?_modify, this]
theorem own_put {w : World} {B g L c q k : Nat} {l ys : List Int} (h : Own w B (.slice (some ⟨g, 0, none⟩) L c) l) (hy : ys.length = l.length) (hk : k ≤ l.length) (hr : ∀ x ∈ ys, I64 x) :
    Own (putRow (Value.int .i64) (Sort.ahead w q) g 0 ys.toArray) B (.slice (some ⟨g, 0, none⟩) k c) (ys.take k) := by
  have hn := h.n_eq
  subst hn
  have := Lib.ownsRow_putRow (q := q) (ys := ys) (k := k) h.1 hy hk
  refine ⟨?_, fun x hx => hr x (List.mem_of_mem_take hx)⟩
  rw [List.length_take, hy, Nat.min_eq_left hk]
  exact this
/-- What a callee leaves that turns a row of the caller's in place. -/
def RIP (l : List Int) (B : Nat) (v : Value) (w : World) (e : Ending) (w' : World) : Prop := e = .returned (.tuple #[]) ∧ Own w' B v l ∧ w.grownBy w' v.ownBlock
def RSub (l : List Int) (B : Nat) (v : Value) (w : World) (e : Ending) (w' : World) : Prop := ∃ v', e = .returned v' ∧ Own w' B v' l ∧ w.grownBy w' v.ownBlock ∧ ∀ k, v'.ownBlock = some k → v.ownBlock = some k
set_option maxRecDepth 100000 in
theorem slClone_c (l : List Int) (v : Value) (w : World) (hv : Ints w v l) (hlen : l.length ≤ 1000000000) : Calls Try.prog 61 #[v] w (RL l w) := by
  have hr : ∀ x ∈ l, I64 x := fun x hx => hv.i64 hx
  obtain ⟨A, c, hve, _, _⟩ := hv.form0
  by_cases h0 : l.length = 0
  · have hl : l = [] := List.eq_nil_of_length_eq_zero h0
    subst hl
    subst hve
    cases A with
    | none => exact (Try.slices_Clone_int_nil 0 c w).mono fun e w' ⟨he, hw⟩ => ⟨_, he, Own.nil _ _, by rw [hw]; exact Below.refl _ _⟩
    | some a => exact (Try.slices_Clone_int_zero a c w).mono fun e w' ⟨v', he, ho, _, hb⟩ => ⟨v', he, ⟨ho, hr⟩, hb⟩
  · obtain ⟨ad, c', hve2, _, _⟩ := hv.form (by omega)
    subst hve2
    obtain ⟨b, o, rfl, hc⟩ := hv.plain (by omega)
    refine (Try.slices_Clone_int b o l.length c' l w (Nat.le_refl _) (by omega) hc).mono fun e w' ⟨v', he, ho, _, hb⟩ => ⟨v', he, ⟨?_, hr⟩, hb⟩
    rw [List.take_length] at ho
    exact ho
end Go.Proofs.Ytblkddjljncggaa
