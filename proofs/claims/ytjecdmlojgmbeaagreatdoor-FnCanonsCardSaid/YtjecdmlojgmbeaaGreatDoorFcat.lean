/- Contracts: slices.Grow of nil, slices.Concat at []int. -/
import Derived.Test.YtjecdmlojgmbeaaGreatDoorRhy
import Derived.Lib.AppendZerosOnto
import Derived.Lib.AppendZeros
namespace Go.Proofs.YtjecdmlojgmbeaaGreatDoor
open Go.RowKit
/-- append(out, src...) with an empty source that has no address -/
theorem run_append_nil {w : World} {B : Nat} {v : Value} {l : List Int} (h : Own w B v l) (ty : TypeId) (c : Nat) : (Builtin.append_ #[23, 23] ty #[v, .slice none 0 c]).run Tryz.prog w = .ok v w := by
  obtain ⟨i0, hi, hz0, hz1, hz2⟩ := info_parts Tryz.infoInt
  rcases h.1.2 with ⟨rfl, hn⟩ | ⟨g, cap, cur, rfl, _, _, hnc, _⟩
  · simp [Builtin.append_, run_underlying Tryz.underlying23, sizeOf, typeInfo, hi, Builtin.lenOf, Builtin.firstCells]
  · simp [Builtin.append_, run_underlying Tryz.underlying23, sizeOf, typeInfo, hi, Builtin.lenOf, Builtin.firstCells, hnc, storeCells]
theorem op_appendL {o : Oper} {a : Act} {K : Act → World → Prop} {Q : Exit → Act → World → Prop} {w : World} (s x : Operand)
    (ho : o.op = .call { callee := .builtin .append, args := #[s, x], argTypes := #[23, 23] })
    {B : Nat} {v u : Value} {l m : List Int} (hs : a.eval s = v) (hx : a.eval x = u)
    (hown : Own w B v l) (hsrc : Ints w u m) (hlen : l.length + m.length ≤ 1099511627776) (hB : B ≤ w.heap.size)
    (h : ∀ v' w', Own w' B v' (l ++ m) → w.grownBy w' v.ownBlock → Below B w w' → (∀ k, v'.ownBlock = some k → v.ownBlock = some k ∨ w.heap.size ≤ k) → K (a.put o.dst v') w') : o.wp Tryz.prog a w K Q := by
  obtain ⟨i0, hi, hz0, hz1, hz2⟩ := info_parts Tryz.infoInt
  have hm := fun x hx => hsrc.i64 (x := x) hx
  obtain ⟨A, c, hue, hmc, hcm, hcell⟩ := hsrc
  cases A with
  | none =>
    have h0 : m = [] := by
      cases m with
      | nil => rfl
      | cons y t =>
        obtain ⟨_, ad, he, _⟩ := hcell 0 y rfl
        cases he
    subst h0
    have hr := run_append_nil hown o.type c
    unfold Oper.wp execOp
    simp only [ho, resolve, invoke, builtin, Sem.run_bind, Sem.run_pure, Result.andThen_ok, List.map_toArray, List.map_cons, List.map_nil, hs, hx, hue, List.length_nil, hr]
    exact h v w (by simpa using hown) (World.grownBy.refl _ _) (Below.refl _ _) fun k hk => .inl hk
  | some ad =>
    obtain ⟨v', w', hr, h1, h2, _, h4⟩ := run_append_own_at (P := Tryz.prog) w B 23 o.type 3 i0 (.int .i64 0) 1 8 Tryz.underlying23 hi hz0 hz1 hz2 rfl (by decide) v l.length _ hown.1 ad m.length c (m.map (Value.int .i64)) (by simp)
      (by
        intro j u hj
        rw [List.getElem?_map] at hj
        cases hy : m[j]? with
        | none => rw [hy] at hj; cases hj
        | some y =>
          rw [hy] at hj
          obtain ⟨_, ad', he, hc⟩ := hcell j y hy
          cases he
          simp at hj
          rw [← hj]; exact hc)
      (by intro u hu; rw [List.mem_map] at hu; obtain ⟨y, _, rfl⟩ := hu; rfl) (by unfold maxLen; omega) (by omega) hB
    unfold Oper.wp execOp
    simp only [ho, resolve, invoke, builtin, Sem.run_bind, Sem.run_pure, Result.andThen_ok, List.map_toArray, List.map_cons, List.map_nil, hs, hx, hue, hr]
    refine h v' w' ⟨by simpa using h1, ?_⟩ h2 (hown.below h2 hB) ?_
    · intro y hy
      rcases List.mem_append.1 hy with h' | h'
      · exact hown.2 y h'
      · exact hm y h'
    · intro k hk
      rcases h4 with e | e
      · left; rw [← e]; exact hk
      · right; rw [e] at hk; cases hk; exact Nat.le_refl _
theorem wp_appendL {ops : Array Oper} {rest : List Oper} {o : Oper} {a : Act} {Q : Exit → Act → World → Prop} {w : World} (hgd : o.guard = none) (s x : Operand)
    (ho : o.op = .call { callee := .builtin .append, args := #[s, x], argTypes := #[23, 23] })
    {B : Nat} {v u : Value} {l m : List Int} (hs : a.eval s = v) (hx : a.eval x = u)
    (hown : Own w B v l) (hsrc : Ints w u m) (hlen : l.length + m.length ≤ 1099511627776) (hB : B ≤ w.heap.size)
    (h : ∀ v' w', Own w' B v' (l ++ m) → w.grownBy w' v.ownBlock → Below B w w' → (∀ k, v'.ownBlock = some k → v.ownBlock = some k ∨ w.heap.size ≤ k) → wpList Tryz.prog ops Q rest (a.put o.dst v') w') :
    wpList Tryz.prog ops Q (o :: rest) a w :=
  wpList_plain hgd fun _ hK => op_appendL s x ho hs hx hown hsrc hlen hB fun v' w' h1 h2 h3 h4 => hK _ _ (h v' w' h1 h2 h3 h4)
theorem step_appendL {ops : Array Oper} {o : Oper} {a : Act} {K : Act → World → Prop} {Q : Exit → Act → World → Prop} {E : Prop} {w : World} (hgd : o.guard = none) (s x : Operand)
    (ho : o.op = .call { callee := .builtin .append, args := #[s, x], argTypes := #[23, 23] })
    {B : Nat} {v u : Value} {l m : List Int} (hs : a.eval s = v) (hx : a.eval x = u)
    (hown : Own w B v l) (hsrc : Ints w u m) (hlen : l.length + m.length ≤ 1099511627776) (hB : B ≤ w.heap.size)
    (h : ∀ v' w', Own w' B v' (l ++ m) → w.grownBy w' v.ownBlock → Below B w w' → (∀ k, v'.ownBlock = some k → v.ownBlock = some k ∨ w.heap.size ≤ k) → K (a.put o.dst v') w') :
    if Region.wanted o (yielded ops a.tmps) = true then Oper.wp Tryz.prog o a w K Q else E := by
  have hw : Region.wanted o (yielded ops a.tmps) = true := by simp [Region.wanted, hgd]
  rw [if_pos hw]
  exact op_appendL s x ho hs hx hown hsrc hlen hB h
theorem flat_take {ls : List (List Int)} {k : Nat} {l : List Int} (h : ls[k]? = some l) : (ls.take (k + 1)).flatten = (ls.take k).flatten ++ l := by
  rw [List.take_add_one, h]; simp
theorem flat_take_le (ls : List (List Int)) (k : Nat) : (ls.take k).flatten.length ≤ ls.flatten.length := by
  conv => rhs; rw [← List.take_append_drop k ls]
  rw [List.flatten_append, List.length_append]
  omega
/-- a row of n slices, each of which reads as a list -/
def Rows (w : World) (b n : Nat) (us : List Value) (ls : List (List Int)) : Prop :=
  us.length = n ∧ ls.length = n ∧ ∀ k u l, us[k]? = some u → ls[k]? = some l → w.cell? ⟨b, k, none⟩ = some u ∧ Ints w u l
theorem Rows.ext {w w' : World} {b n : Nat} {us : List Value} {ls : List (List Int)} (h : Rows w b n us ls) (hx : Ext w w') : Rows w' b n us ls :=
  ⟨h.1, h.2.1, fun k u l hu hl => ⟨hx.cell_of (h.2.2 k u l hu hl).1, (h.2.2 k u l hu hl).2.ext hx⟩⟩
theorem Rows.drew {w : World} {b n : Nat} {us : List Value} {ls : List (List Int)} (h : Rows w b n us ls) : Rows w.drew b n us ls := h
theorem rows2 (w : World) {u1 u2 : Value} {l1 l2 : List Int} {T : TypeId} (h1 : Ints w u1 l1) (h2 : Ints w u2 l2) : Rows (w.alloc (.cells #[u1, u2] T)) w.heap.size 2 [u1, u2] [l1, l2] := by
  refine ⟨rfl, rfl, fun k u l hu hl => ?_⟩
  have hc := fun j => cell_of_row (w.alloc (.cells #[u1, u2] T)) w.heap.size j #[u1, u2] T (0, 0) (heap_alloc_new w _)
  match k, hu, hl with
  | 0, hu, hl => cases hu; cases hl; exact ⟨hc 0, h1.alloc _⟩
  | 1, hu, hl => cases hu; cases hl; exact ⟨hc 1, h2.alloc _⟩
theorem rows3 (w : World) {u1 u2 u3 : Value} {l1 l2 l3 : List Int} {T : TypeId} (h1 : Ints w u1 l1) (h2 : Ints w u2 l2) (h3 : Ints w u3 l3) : Rows (w.alloc (.cells #[u1, u2, u3] T)) w.heap.size 3 [u1, u2, u3] [l1, l2, l3] := by
  refine ⟨rfl, rfl, fun k u l hu hl => ?_⟩
  have hc := fun j => cell_of_row (w.alloc (.cells #[u1, u2, u3] T)) w.heap.size j #[u1, u2, u3] T (0, 0) (heap_alloc_new w _)
  match k, hu, hl with
  | 0, hu, hl => cases hu; cases hl; exact ⟨hc 0, h1.alloc _⟩
  | 1, hu, hl => cases hu; cases hl; exact ⟨hc 1, h2.alloc _⟩
  | 2, hu, hl => cases hu; cases hl; exact ⟨hc 2, h3.alloc _⟩
end Go.Proofs.YtjecdmlojgmbeaaGreatDoor
