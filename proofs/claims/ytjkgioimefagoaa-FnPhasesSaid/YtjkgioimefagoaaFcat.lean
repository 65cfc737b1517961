/- Contracts: slices.Grow of nil, slices.Concat at []int. -/
import Derived.Test.YtjkgioimefagoaaRhy
import Derived.Lib.AppendZerosOnto
import Derived.Lib.AppendZeros
namespace Go.Proofs.Ytjkgioimefagoaa
open Go.RowKit
/-- append(out, src...) with an empty source that has no address -/
theorem run_append_nil {w : World} {B : Nat} {v : Value} {l : List Int} (h : Own w B v l) (ty : TypeId) (c : Nat) : (Builtin.append_ #[23, 23] ty #[v, .slice none 0 c]).run Try.prog w = .ok v w := by
  obtain ⟨i0, hi, hz0, hz1, hz2⟩ := info_parts Try.infoInt
  rcases h.1.2 with ⟨rfl, hn⟩ | ⟨g, cap, cur, rfl, _, _, hnc, _⟩
  · simp [Builtin.append_, run_underlying Try.underlying23, sizeOf, typeInfo, hi, Builtin.lenOf, Builtin.firstCells]
  · simp [Builtin.append_, run_underlying Try.underlying23, sizeOf, typeInfo, hi, Builtin.lenOf, Builtin.firstCells, hnc, storeCells]
theorem op_appendL {o : Oper} {a : Act} {K : Act → World → Prop} {Q : Exit → Act → World → Prop} {w : World} (s x : Operand)
    (ho : o.op = .call { callee := .builtin .append, args := #[s, x], argTypes := #[23, 23] })
    {B : Nat} {v u : Value} {l m : List Int} (hs : a.eval s = v) (hx : a.eval x = u)
    (hown : Own w B v l) (hsrc : Ints w u m) (hlen : l.length + m.length ≤ 1099511627776) (hB : B ≤ w.heap.size)
    (h : ∀ v' w', Own w' B v' (l ++ m) → w.grownBy w' v.ownBlock → Below B w w' → (∀ k, v'.ownBlock = some k → v.ownBlock = some k ∨ w.heap.size ≤ k) → K (a.put o.dst v') w') : o.wp Try.prog a w K Q := by
  obtain ⟨i0, hi, hz0, hz1, hz2⟩ := info_parts Try.infoInt
  have hm := fun x hx => hsrc.i64 (x := x) hx
  obtain ⟨A, c, hue, hmc, hcm, hcell⟩ := hsrc
  cases A with
  | none =>
    have h0 : m = [] := by
      cases m with
      | nil => rfl
      | cons y t =>
        obtain ⟨_, ad, he, _⟩ := hcell 0 y rfl
        cases he
    subst h0
    have hr := run_append_nil hown o.type c
    unfold Oper.wp execOp
    simp only [ho, resolve, invoke, builtin, Sem.run_bind, Sem.run_pure, Result.andThen_ok, List.map_toArray, List.map_cons, List.map_nil, hs, hx, hue, List.length_nil, hr]
    exact h v w (by simpa using hown) (World.grownBy.refl _ _) (Below.refl _ _) fun k hk => .inl hk
  | some ad =>
    obtain ⟨v', w', hr, h1, h2, _, h4⟩ := run_append_own_at (P := Try.prog) w B 23 o.type 3 i0 (.int .i64 0) 1 8 Try.underlying23 hi hz0 hz1 hz2 rfl (by decide) v l.length _ hown.1 ad m.length c (m.map (Value.int .i64)) (by simp)
      (by
        intro j u hj
        rw [List.getElem?_map] at hj
        cases hy : m[j]? with
        | none => rw [hy] at hj; cases hj
        | some y =>
          rw [hy] at hj
          obtain ⟨_, ad', he, hc⟩ := hcell j y hy
          cases he
          simp at hj
          rw [← hj]; exact hc)
      (by intro u hu; rw [List.mem_map] at hu; obtain ⟨y, _, rfl⟩ := hu; rfl) (by unfold maxLen; omega) (by omega) hB
    unfold Oper.wp execOp
    simp only [ho, resolve, invoke, builtin, Sem.run_bind, Sem.run_pure, Result.andThen_ok, List.map_toArray, List.map_cons, List.map_nil, hs, hx, hue, hr]
    refine h v' w' ⟨by simpa using h1, ?_⟩ h2 (hown.below h2 hB) ?_
    · intro y hy
      rcases List.mem_append.1 hy with h' | h'
      · exact hown.2 y h'
      · exact hm y h'
    · intro k hk
      rcases h4 with e | e
      · left; rw [← e]; exact hk
      · right; rw [e] at hk; cases hk; exact Nat.le_refl _
theorem wp_appendL {ops : Array Oper} {rest : List Oper} {o : Oper} {a : Act} {Q : Exit → Act → World → Prop} {w : World} (hgd : o.guard = none) (s x : Operand)
    (ho : o.op = .call { callee := .builtin .append, args := #[s, x], argTypes := #[23, 23] })
    {B : Nat} {v u : Value} {l m : List Int} (hs : a.eval s = v) (hx : a.eval x = u)
    (hown : Own w B v l) (hsrc : Ints w u m) (hlen : l.length + m.length ≤ 1099511627776) (hB : B ≤ w.heap.size)
    (h : ∀ v' w', Own w' B v' (l ++ m) → w.grownBy w' v.ownBlock → Below B w w' → (∀ k, v'.ownBlock = some k → v.ownBlock = some k ∨ w.heap.size ≤ k) → wpList Try.prog ops Q rest (a.put o.dst v') w') :
    wpList Try.prog ops Q (o :: rest) a w :=
  wpList_plain hgd fun _ hK => op_appendL s x ho hs hx hown hsrc hlen hB fun v' w' h1 h2 h3 h4 => hK _ _ (h v' w' h1 h2 h3 h4)
theorem step_appendL {ops : Array Oper} {o : Oper} {a : Act} {K : Act → World → Prop} {Q : Exit → Act → World → Prop} {E : Prop} {w : World} (hgd : o.guard = none) (s x : Operand)
    (ho : o.op = .call { callee := .builtin .append, args := #[s, x], argTypes := #[23, 23] })
    {B : Nat} {v u : Value} {l m : List Int} (hs : a.eval s = v) (hx : a.eval x = u)
    (hown : Own w B v l) (hsrc : Ints w u m) (hlen : l.length + m.length ≤ 1099511627776) (hB : B ≤ w.heap.size)
    (h : ∀ v' w', Own w' B v' (l ++ m) → w.grownBy w' v.ownBlock → Below B w w' → (∀ k, v'.ownBlock = some k → v.ownBlock = some k ∨ w.heap.size ≤ k) → K (a.put o.dst v') w') :
    if Region.wanted o (yielded ops a.tmps) = true then Oper.wp Try.prog o a w K Q else E := by
  have hw : Region.wanted o (yielded ops a.tmps) = true := by simp [Region.wanted, hgd]
  rw [if_pos hw]
  exact op_appendL s x ho hs hx hown hsrc hlen hB h
theorem flat_take {ls : List (List Int)} {k : Nat} {l : List Int} (h : ls[k]? = some l) : (ls.take (k + 1)).flatten = (ls.take k).flatten ++ l := by
  rw [List.take_add_one, h]; simp
theorem flat_take_le (ls : List (List Int)) (k : Nat) : (ls.take k).flatten.length ≤ ls.flatten.length := by
  conv => rhs; rw [← List.take_append_drop k ls]
  rw [List.flatten_append, List.length_append]
  omega
/-- a row of n slices, each of which reads as a list -/
def Rows (w : World) (b n : Nat) (us : List Value) (ls : List (List Int)) : Prop :=
  us.length = n ∧ ls.length = n ∧ ∀ k u l, us[k]? = some u → ls[k]? = some l → w.cell? ⟨b, k, none⟩ = some u ∧ Ints w u l
theorem Rows.ext {w w' : World} {b n : Nat} {us : List Value} {ls : List (List Int)} (h : Rows w b n us ls) (hx : Ext w w') : Rows w' b n us ls :=
  ⟨h.1, h.2.1, fun k u l hu hl => ⟨hx.cell_of (h.2.2 k u l hu hl).1, (h.2.2 k u l hu hl).2.ext hx⟩⟩
theorem Rows.drew {w : World} {b n : Nat} {us : List Value} {ls : List (List Int)} (h : Rows w b n us ls) : Rows w.drew b n us ls := h
theorem rows2 (w : World) {u1 u2 : Value} {l1 l2 : List Int} {T : TypeId} (h1 : Ints w u1 l1) (h2 : Ints w u2 l2) : Rows (w.alloc (.cells #[u1, u2] T)) w.heap.size 2 [u1, u2] [l1, l2] := by
  refine ⟨rfl, rfl, fun k u l hu hl => ?_⟩
  have hc := fun j => cell_of_row (w.alloc (.cells #[u1, u2] T)) w.heap.size j #[u1, u2] T (0, 0) (heap_alloc_new w _)
  match k, hu, hl with
  | 0, hu, hl => cases hu; cases hl; exact ⟨hc 0, h1.alloc _⟩
  | 1, hu, hl => cases hu; cases hl; exact ⟨hc 1, h2.alloc _⟩
theorem rows3 (w : World) {u1 u2 u3 : Value} {l1 l2 l3 : List Int} {T : TypeId} (h1 : Ints w u1 l1) (h2 : Ints w u2 l2) (h3 : Ints w u3 l3) : Rows (w.alloc (.cells #[u1, u2, u3] T)) w.heap.size 3 [u1, u2, u3] [l1, l2, l3] := by
  refine ⟨rfl, rfl, fun k u l hu hl => ?_⟩
  have hc := fun j => cell_of_row (w.alloc (.cells #[u1, u2, u3] T)) w.heap.size j #[u1, u2, u3] T (0, 0) (heap_alloc_new w _)
  match k, hu, hl with
  | 0, hu, hl => cases hu; cases hl; exact ⟨hc 0, h1.alloc _⟩
  | 1, hu, hl => cases hu; cases hl; exact ⟨hc 1, h2.alloc _⟩
  | 2, hu, hl => cases hu; cases hl; exact ⟨hc 2, h3.alloc _⟩
set_option maxRecDepth 100000 in
theorem slGrow_c (n : Nat) (w : World) (hn : n ≤ 1000000) : Calls Try.prog 51 #[.slice none 0 0, .int .i64 n] w (RL [] w) := by
  by_cases h0 : n = 0
  · subst h0
    go_enter Try.func51, Try.ntmps51
    go_wp2
    go_ret
    exact ⟨_, rfl, Own.nil _ _, Below.refl _ _⟩
  · obtain ⟨i0, hi, hz0, hz1, hz2⟩ := info_parts Try.infoInt
    have hold : (Builtin.firstCells i0.size 0 (.slice none 0 0)).run Try.prog w.drew = .ok ([] : List Value).toArray w.drew := run_firstCells_none w.drew i0.size 0 0 0
    have hr := fun ty => Lib.run_append_grow_zeros (P := Try.prog) w 23 3 ty 3 i0 _ .i64 .i64 Try.underlying23 Try.underlying3 hi hz0 none 0 0 [] hold n (by omega) (by omega) (by omega) (by omega) (by rw [hz2]; omega) (growslice_fits (by omega) (by rw [hz2]; omega))
    simp only [Nat.zero_add] at hr
    have hG1 := grownCap_ge w n 0 3
    have hG2 := grownCap_le_maxLen w n 0 3 (by unfold maxLen; omega)
    have hown : Own (w.alloc (.cells (Builtin.zeroCells #[.int .i64 0] n ++ Builtin.zeroCells #[.int .i64 0] (grownCap w n 0 3 - n)) 3)).drew w.heap.size (.slice (some ⟨w.heap.size, 0, none⟩) 0 (grownCap w n 0 3)) [] := by
      refine ⟨⟨rfl, .inr ⟨w.heap.size, _, _, rfl, Nat.le_refl _, heap_alloc_new w _, Nat.zero_le _, hG2, ?_, rfl⟩⟩, fun _ h => by cases h⟩
      simp [size_zeroCells]
      omega
    have hext : Ext w (w.alloc (.cells (Builtin.zeroCells #[.int .i64 0] n ++ Builtin.zeroCells #[.int .i64 0] (grownCap w n 0 3 - n)) 3)).drew := Below.drew (one_box w _)
    generalize grownCap w n 0 3 = G at *
    have Hown := Lib.hid hown
    have Hext := Lib.hid hext
    have hn0 : (0 : Int) < (n : Int) := by omega
    unfold maxLen at hG2
    clear hold hown hext
    go_enter Try.func51, Try.ntmps51
    go_wp2_with (at_builtin; refine Lib.wpList_append_run _ rfl _ _ _ _ rfl _ _ rfl rfl _ _ (hr _) ?_)
    all_goals
      go_ret
      exact ⟨_, rfl, Hown.out, Hext.out⟩
set_option maxRecDepth 100000 in
theorem slConcat_c (b n : Nat) (us : List Value) (ls : List (List Int)) (w : World) (hr : Rows w b n us ls) (htot : ls.flatten.length ≤ 1000000) (hn : n ≤ 1000) : Calls Try.prog 42 #[.slice (some ⟨b, 0, none⟩) n n] w (RL ls.flatten w) := by
  have Hr := Lib.hid hr
  have Ht := Lib.hid htot
  have hnn : n ≤ 9223372036854775807 := by omega
  clear hr htot
  obtain ⟨N, hN⟩ : ∃ N, N = ls.flatten.length := ⟨_, rfl⟩
  have HN := Lib.hid hN
  have hN6 : N ≤ 1000000 := by rw [hN]; exact Ht.out
  clear hN
  go_enter Try.func42, Try.ntmps42
  go_wp2
  go_loop [3, 11] (fun s i => ∃ k q : Nat, k ≤ n ∧ q ≤ 1000000 ∧ i = .int .i64 k ∧ s = .int .i64 q ∧ Hid (q = (ls.take k).flatten.length)) (fun _ i => n - (intOf i).toNat)
  case atStart => exact ⟨0, 0, Nat.zero_le _, Nat.zero_le _, rfl, rfl, rfl⟩
  case round =>
    obtain ⟨k, q, hk, hq6, rfl, rfl, hq⟩ := hrel
    by_cases hkn : k < n
    · obtain ⟨u, hu⟩ : ∃ u, us[k]? = some u := ⟨_, List.getElem?_eq_getElem (by rw [Hr.out.1]; exact hkn)⟩
      obtain ⟨l, hl⟩ : ∃ l, ls[k]? = some l := ⟨_, List.getElem?_eq_getElem (by rw [Hr.out.2.1]; exact hkn)⟩
      obtain ⟨hc, hi⟩ := Hr.out.2.2 k u l hu hl
      obtain ⟨A, c, rfl, _, _⟩ := hi.form0
      have hle := flat_take_le ls (k + 1)
      rw [flat_take hl, List.length_append] at hle
      have htt := Ht.out
      obtain ⟨m, hm⟩ : ∃ m, m = l.length := ⟨_, rfl⟩
      rw [← hm] at hc
      have hq2 : q + m ≤ 1000000 := by rw [hq.out, hm]; omega
      have Hn : Hid (q + m = (ls.take (k + 1)).flatten.length) := by unfold Hid; rw [flat_take hl, List.length_append, hq.out, hm]
      have hkn2 : (k : Int) < (n : Int) := by omega
      clear hu hl hi hm hle htt
      go_wp2
      go_round
      case rel => exact ⟨k + 1, q + m, by omega, hq2, by go_num, by go_num, Hn⟩
      case measure => simp [intOf]; omega
    · obtain rfl : k = n := by omega
      have hall : Hid (ls.take k = ls) := by unfold Hid; rw [List.take_of_length_le (by rw [Hr.out.2.1]; exact Nat.le_refl _)]
      obtain rfl : q = N := by rw [hq.out, hall.out, HN.out]
      go_wp2_with (first | (go_at_call 51; refine (slGrow_c q _ (by omega)).mono ?_; rintro e w1 ⟨v1, rfl, ho1, hx1⟩))
      go_loopw [6, 27] (fun o i wr => ∃ j : Nat, j ≤ k ∧ i = .int .i64 j ∧ Hid (Own wr w.heap.size o (ls.take j).flatten ∧ Ext w wr)) (fun _ i _ => k - (intOf i).toNat)
      case atStart => exact ⟨0, Nat.zero_le _, rfl, ho1, hx1⟩
      case round =>
        clear ho1 hx1
        obtain ⟨j, hj, rfl, hown⟩ := hrel
        by_cases hjk : j < k
        · obtain ⟨u, hu⟩ : ∃ u, us[j]? = some u := ⟨_, List.getElem?_eq_getElem (by rw [Hr.out.1]; exact hjk)⟩
          obtain ⟨l, hl⟩ : ∃ l, ls[j]? = some l := ⟨_, List.getElem?_eq_getElem (by rw [Hr.out.2.1]; exact hjk)⟩
          obtain ⟨hc, hi⟩ := (Hr.out.ext hown.out.2).2.2 j u l hu hl
          obtain ⟨A, c, rfl, _, _⟩ := hi.form0
          have hle := flat_take_le ls (j + 1)
          have Hn := Lib.hid (flat_take hl)
          rw [flat_take hl, List.length_append] at hle
          have htt := Ht.out
          have hlen2 : (ls.take j).flatten.length + l.length ≤ 1099511627776 := by omega
          have hjn2 : (j : Int) < (k : Int) := by omega
          obtain ⟨m, hm⟩ : ∃ m, m = l.length := ⟨_, rfl⟩
          rw [← hm] at hc hi
          have Hi := Lib.hid hi
          clear hu hl hi hle htt hm
          go_wp2_with (first | (at_builtin; refine wp_appendL rfl (.tmp 31) (.tmp 32) rfl rfl rfl hown.out.1 Hi.out hlen2 hown.out.2.size ?_; intro v' w' ho hg hb hat))
          go_roundw
          case rel => exact ⟨j + 1, by omega, by go_num, by rw [Hn.out]; exact ho, hown.out.2.trans hb⟩
          case measure => simp [intOf]; omega
        · obtain rfl : j = k := by omega
          go_wp2
          go_ret
          have := hown.out.1
          rw [hall.out] at this
          exact ⟨_, rfl, this, hown.out.2⟩
end Go.Proofs.Ytjkgioimefagoaa
