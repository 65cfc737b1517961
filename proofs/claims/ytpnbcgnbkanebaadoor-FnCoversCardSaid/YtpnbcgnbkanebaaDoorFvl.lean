/- Words for l14All: what is gathered behind the caller's lists. -/
import Derived.Test.YtpnbcgnbkanebaaDoorFcvs
import Derived.Test.YtpnbcgnbkanebaaDoorFa
import Derived.Maps.Range
namespace Go.Proofs.YtpnbcgnbkanebaaDoor
open Go.RowKit
/-- append(out, src...) with an empty source that has no address -/
theorem run_append_nilV {w : World} {B : Nat} {v : Value} {l : List Int} (h : Own w B v l) (ty : TypeId) (c : Nat) : (Builtin.append_ #[22, 22] ty #[v, .slice none 0 c]).run Tryd.prog w = .ok v w := by
  obtain ⟨i0, hi, hz0, hz1, hz2⟩ := info_parts Tryd.infoInt
  rcases h.1.2 with ⟨rfl, hn⟩ | ⟨g, cap, cur, rfl, _, _, hnc, _⟩
  · simp [Builtin.append_, run_underlying Tryd.underlying22, sizeOf, typeInfo, hi, Builtin.lenOf, Builtin.firstCells]
  · simp [Builtin.append_, run_underlying Tryd.underlying22, sizeOf, typeInfo, hi, Builtin.lenOf, Builtin.firstCells, hnc, storeCells]
theorem op_appendV {o : Oper} {a : Act} {K : Act → World → Prop} {Q : Exit → Act → World → Prop} {w : World} (s x : Operand)
    (ho : o.op = .call { callee := .builtin .append, args := #[s, x], argTypes := #[22, 22] })
    {B : Nat} {v u : Value} {l m : List Int} (hs : a.eval s = v) (hx : a.eval x = u)
    (hown : Own w B v l) (hsrc : Ints w u m) (hlen : l.length + m.length ≤ 1099511627776) (hB : B ≤ w.heap.size)
    (h : ∀ v' w', Own w' B v' (l ++ m) → w.grownBy w' v.ownBlock → Below B w w' → (∀ k, v'.ownBlock = some k → v.ownBlock = some k ∨ w.heap.size ≤ k) → K (a.put o.dst v') w') : o.wp Tryd.prog a w K Q := by
  obtain ⟨i0, hi, hz0, hz1, hz2⟩ := info_parts Tryd.infoInt
  have hm := fun x hx => hsrc.i64 (x := x) hx
  obtain ⟨A, c, hue, hmc, hcm, hcell⟩ := hsrc
  cases A with
  | none =>
    have h0 : m = [] := by
      cases m with
      | nil => rfl
      | cons y t =>
        obtain ⟨_, ad, he, _⟩ := hcell 0 y rfl
        cases he
    subst h0
    have hr := run_append_nilV hown o.type c
    unfold Oper.wp execOp
    simp only [ho, resolve, invoke, builtin, Sem.run_bind, Sem.run_pure, Result.andThen_ok, List.map_toArray, List.map_cons, List.map_nil, hs, hx, hue, List.length_nil, hr]
    exact h v w (by simpa using hown) (World.grownBy.refl _ _) (Below.refl _ _) fun k hk => .inl hk
  | some ad =>
    obtain ⟨v', w', hr, h1, h2, _, h4⟩ := run_append_own_at (P := Tryd.prog) w B 22 o.type 3 i0 (.int .i64 0) 1 8 Tryd.underlying22 hi hz0 hz1 hz2 rfl (by decide) v l.length _ hown.1 ad m.length c (m.map (Value.int .i64)) (by simp)
      (by
        intro j u hj
        rw [List.getElem?_map] at hj
        cases hy : m[j]? with
        | none => rw [hy] at hj; cases hj
        | some y =>
          rw [hy] at hj
          obtain ⟨_, ad', he, hc⟩ := hcell j y hy
          cases he
          simp at hj
          rw [← hj]; exact hc)
      (by intro u hu; rw [List.mem_map] at hu; obtain ⟨y, _, rfl⟩ := hu; rfl) (by unfold maxLen; omega) (by omega) hB
    unfold Oper.wp execOp
    simp only [ho, resolve, invoke, builtin, Sem.run_bind, Sem.run_pure, Result.andThen_ok, List.map_toArray, List.map_cons, List.map_nil, hs, hx, hue, hr]
    refine h v' w' ⟨by simpa using h1, ?_⟩ h2 (hown.below h2 hB) ?_
    · intro y hy
      rcases List.mem_append.1 hy with h' | h'
      · exact hown.2 y h'
      · exact hm y h'
    · intro k hk
      rcases h4 with e | e
      · left; rw [← e]; exact hk
      · right; rw [e] at hk; cases hk; exact Nat.le_refl _
theorem wp_appendV {ops : Array Oper} {rest : List Oper} {o : Oper} {a : Act} {Q : Exit → Act → World → Prop} {w : World} (hgd : o.guard = none) (s x : Operand)
    (ho : o.op = .call { callee := .builtin .append, args := #[s, x], argTypes := #[22, 22] })
    {B : Nat} {v u : Value} {l m : List Int} (hs : a.eval s = v) (hx : a.eval x = u)
    (hown : Own w B v l) (hsrc : Ints w u m) (hlen : l.length + m.length ≤ 1099511627776) (hB : B ≤ w.heap.size)
    (h : ∀ v' w', Own w' B v' (l ++ m) → w.grownBy w' v.ownBlock → Below B w w' → (∀ k, v'.ownBlock = some k → v.ownBlock = some k ∨ w.heap.size ≤ k) → wpList Tryd.prog ops Q rest (a.put o.dst v') w') :
    wpList Tryd.prog ops Q (o :: rest) a w :=
  wpList_plain hgd fun _ hK => op_appendV s x ho hs hx hown hsrc hlen hB fun v' w' h1 h2 h3 h4 => hK _ _ (h v' w' h1 h2 h3 h4)
theorem allocDV (w : World) (o : Obj) : Ext w (w.alloc o).drew := Below.drew (Below.alloc (Below.refl _ _) (Nat.le_refl _) o)
/-- What a call leaves that gathers slices behind those of the caller. -/
def MV (B : Nat) (out : Value) (ls : List (List Int)) (w : World) (e : Ending) (w' : World) : Prop :=
  ∃ v us, e = .returned v ∧ Lss w' B v us ls ∧ w.grownBy w' out.ownBlock ∧ ∀ k, v.ownBlock = some k → out.ownBlock = some k ∨ w.heap.size ≤ k
theorem MV.refl {w : World} {B : Nat} {out : Value} {us : List Value} {ls : List (List Int)} (h : Lss w B out us ls) : MV B out ls w (.returned out) w := ⟨_, us, rfl, h, World.grownBy.refl _ _, fun k hk => .inl hk⟩
/-- one more gathering, behind the first -/
theorem MV.tr {w w1 w2 : World} {B : Nat} {out v1 v2 : Value} {l2 : List (List Int)} (hg : w.grownBy w1 out.ownBlock) (hat : ∀ k, v1.ownBlock = some k → out.ownBlock = some k ∨ w.heap.size ≤ k) (h : MV B v1 l2 w1 (.returned v2) w2) : MV B out l2 w (.returned v2) w2 := by
  obtain ⟨v, us, e, hL, hg2, hat2⟩ := h
  refine ⟨v, us, e, hL, hg.andThen hg2 fun j hj => (hat j hj).symm, fun k hk => ?_⟩
  rcases hat2 k hk with h | h
  · exact hat k h
  · exact .inr (Nat.le_trans hg.size h)
theorem wp_appendGV {ops : Array Oper} {rest : List Oper} {o : Oper} {a : Act} {Q : Exit → Act → World → Prop} {w2 : World} {N : Nat} (hN : N = w2.heap.size) (hgd : o.guard = none) (s x : Operand)
    (ho : o.op = .call { callee := .builtin .append, args := #[s, x], argTypes := #[30, 30] })
    {B : Nat} {v v2 : Value} {us : List Value} {ls : List (List Int)} {l : List Int} (hs : a.eval s = v) (hx : a.eval x = .slice (some ⟨N, 0, none⟩) 1 1)
    (hr : Lss w2 B v us ls) (ho2 : Own w2 B v2 l) (hav : Apart v2 v) (hau : ∀ p ∈ us, Apart p v2) (hlen : ls.length ≤ 999999999) (hB : B ≤ w2.heap.size)
    (h : ∀ v' w', MV B v (ls ++ [l]) w2 (.returned v') w' → wpList Tryd.prog ops Q rest (a.put o.dst v') w') :
    wpList Tryd.prog ops Q (o :: rest) a (w2.alloc (.cells #[v2] 22)) := by
  subst hN
  refine wpList_plain hgd fun _ hK => op_appendG (us2 := [v2]) (ls2 := [l]) s x ho hs hx (hr.ext (one_boxC w2 _)) rfl rfl ?_ ?_ (by simp) (by simpa using hav) (by simpa using hau) (by rw [hr.2.1]; simp; omega) (by simp; omega) fun v' w' h1 h2 _ h4 => hK _ _ (h v' w' ⟨v', _, rfl, h1, grownBy_tr (World.grownBy_alloc w2 _ _) h2, fun k hk => ?_⟩)
  · intro j u hj
    match j, hj with
    | 0, hj => simp at hj; subst hj; simp [Addr.add]
  · intro k u l' hu hl
    match k, hu, hl with
    | 0, hu, hl => simp at hu hl; subst hu; subst hl; exact ho2.alloc _
  · rcases h4 k hk with h | h
    · exact .inl h
    · right; simp only [World.size_alloc] at h; omega
/-- an element of mask X: it is taken already, or too long, or goes on -/
theorem lside (s X d : Nat) (R : List (List Int)) : ∃ P, P = (if s &&& X = 0 ∧ X / 2 ^ d = 0 then R else []) ∧ ((P = [] ∧ (((s &&& X : Nat) : Int) == 0) = false) ∨ (P = [] ∧ (((s &&& X : Nat) : Int) == 0) = true ∧ (((X / 2 ^ d : Nat) : Int) == 0) = false) ∨
    (P = R ∧ (((s &&& X : Nat) : Int) == 0) = true ∧ (((X / 2 ^ d : Nat) : Int) == 0) = true ∧ s &&& X = 0 ∧ X / 2 ^ d = 0)) := by
  refine ⟨_, rfl, ?_⟩
  by_cases h1 : s &&& X = 0
  · by_cases h2 : X / 2 ^ d = 0
    · rw [if_pos ⟨h1, h2⟩]; exact .inr (.inr ⟨rfl, by rw [h1]; rfl, by rw [h2]; rfl, h1, h2⟩)
    · rw [if_neg (fun h => h2 h.2)]
      exact .inr (.inl ⟨rfl, by rw [h1]; rfl, by rw [beq_eq_false_iff_ne]; omega⟩)
  · rw [if_neg (fun h => h1 h.1)]
    exact .inl ⟨rfl, by rw [beq_eq_false_iff_ne]; omega⟩
theorem lside2 (A s X d : Nat) (R : List (List Int)) : ∃ P, P = (if X ≠ A ∧ s &&& X = 0 ∧ X / 2 ^ d = 0 then R else []) ∧ ((P = [] ∧ ((X : Int) != (A : Int)) = false) ∨ (P = [] ∧ ((X : Int) != (A : Int)) = true ∧ (((s &&& X : Nat) : Int) == 0) = false) ∨ (P = [] ∧ ((X : Int) != (A : Int)) = true ∧ (((s &&& X : Nat) : Int) == 0) = true ∧ (((X / 2 ^ d : Nat) : Int) == 0) = false) ∨
    (P = R ∧ ((X : Int) != (A : Int)) = true ∧ (((s &&& X : Nat) : Int) == 0) = true ∧ (((X / 2 ^ d : Nat) : Int) == 0) = true ∧ s &&& X = 0 ∧ X / 2 ^ d = 0)) := by
  by_cases h : X = A
  · refine ⟨_, rfl, .inl ⟨by rw [if_neg (fun h' => h'.1 h)], by rw [h]; simp⟩⟩
  · have hb : ((X : Int) != (A : Int)) = true := by rw [bne_iff_ne]; omega
    obtain ⟨n1, e, h2⟩ := lside s X d R
    refine ⟨n1, ?_, ?_⟩
    · rw [e]; simp [h]
    · rcases h2 with ⟨h3, h4⟩ | ⟨h3, h4, h5⟩ | ⟨h3, h4, h5, h6, h7⟩
      · exact .inr (.inl ⟨h3, hb, h4⟩)
      · exact .inr (.inr (.inl ⟨h3, hb, h4, h5⟩))
      · exact .inr (.inr (.inr ⟨h3, hb, h4, h5, h6, h7⟩))
/-- the covers behind the list l, that go on with an element of mask X -/
def goR (A B n f t s : Nat) (l : List Int) (X k : Nat) : List (List Int) := (cv A B n f (t + (D (s + X)).2) (D (s + X)).1).map fun y => (l ++ [((2 * t + k : Nat) : Int)]) ++ y
theorem goR_len (A B n f t s : Nat) (l : List Int) (X k : Nat) : (goR A B n f t s l X k).length ≤ 2 ^ f := by unfold goR; rw [List.length_map]; exact cv_len _ _ _ _ _ _
theorem cv_split (A B n f t s : Nat) (l : List Int) (h : ¬ t = n) : (cv A B n (f + 1) t s).map (fun x => l ++ x) =
    (if s &&& A = 0 ∧ A / 2 ^ (n - t) = 0 then goR A B n f t s l A 0 else []) ++ (if B ≠ A ∧ s &&& B = 0 ∧ B / 2 ^ (n - t) = 0 then goR A B n f t s l B 1 else []) := by
  rw [cv, if_neg h, List.map_append]
  unfold goR
  split <;> split <;> simp [Function.comp_def]
end Go.Proofs.YtpnbcgnbkanebaaDoor
