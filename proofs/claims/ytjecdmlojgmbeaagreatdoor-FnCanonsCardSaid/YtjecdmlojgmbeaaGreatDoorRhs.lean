/- Words for slices of rhythms in memory: a row of rhythms that the call owns, each with beats of its own, no two in one block. -/
import Derived.Test.YtjecdmlojgmbeaaGreatDoorRhy
namespace Go.Proofs.YtjecdmlojgmbeaaGreatDoor
open Go.RowKit
/-- the cells of a row of rhythms -/
def pcs : List (Int × Value) → List Value
  | [] => []
  | p :: t => .int .i64 p.1 :: p.2 :: pcs t
theorem pcs_len (us : List (Int × Value)) : (pcs us).length = us.length * 2 := by
  induction us with
  | nil => rfl
  | cons p t ih => simp [pcs, ih]; omega
theorem pcs_app (us vs : List (Int × Value)) : pcs (us ++ vs) = pcs us ++ pcs vs := by
  induction us with
  | nil => rfl
  | cons p t ih => simp [pcs, ih]
theorem pcs_get {us : List (Int × Value)} {k : Nat} {p : Int × Value} (h : us[k]? = some p) : (pcs us)[k * 2]? = some (.int .i64 p.1) ∧ (pcs us)[k * 2 + 1]? = some p.2 := by
  induction us generalizing k with
  | nil => simp at h
  | cons q t ih =>
    cases k with
    | zero => simp at h; subst h; simp [pcs]
    | succ k =>
      have h' : t[k]? = some p := by simpa using h
      have := ih h'
      rw [show (k + 1) * 2 = k * 2 + 1 + 1 by omega]
      simpa [pcs] using this
/-- The row v holds the rhythms rs: us are the pairs that lie in it. -/
def Rhs (w : World) (B : Nat) (v : Value) (us : List (Int × Value)) (rs : List (Int × List Int)) : Prop :=
  w.ownsRow B 25 2 v us.length (pcs us) ∧ us.length = rs.length ∧
  (∀ (k : Nat) (p : Int × Value) (r : Int × List Int), us[k]? = some p → rs[k]? = some r → p.1 = r.1 ∧ Own w B p.2 r.2) ∧ (∀ p ∈ us, Apart p.2 v) ∧ us.Pairwise fun p q => Apart p.2 q.2
theorem Rhs.nil (w : World) (B : Nat) : Rhs w B (.slice none 0 0) [] [] := ⟨World.ownsRow_nil _ _ _ _, rfl, fun k p r h => by simp at h, fun p h => by simp at h, List.Pairwise.nil⟩
theorem Rhs.empty {w : World} {B : Nat} (hB : B ≤ w.heap.size) : Rhs (w.alloc (.cells #[] 25)) B (.slice (some ⟨w.heap.size, 0, none⟩) 0 0) [] [] :=
  ⟨World.ownsRow_lit w #[] 0 hB (Nat.zero_le _) rfl, rfl, fun k p r h => by simp at h, fun p h => by simp at h, List.Pairwise.nil⟩
theorem Rhs.mem {w : World} {B : Nat} {v : Value} {us : List (Int × Value)} {rs : List (Int × List Int)} (h : Rhs w B v us rs) {p : Int × Value} (hp : p ∈ us) : ∃ l, Own w B p.2 l := by
  obtain ⟨k, hk, rfl⟩ := List.getElem_of_mem hp
  have hk2 : k < rs.length := by rw [← h.2.1]; exact hk
  exact ⟨_, (h.2.2.1 k _ _ (List.getElem?_eq_getElem hk) (List.getElem?_eq_getElem hk2)).2⟩
theorem Rhs.ext {w w' : World} {B : Nat} {v : Value} {us : List (Int × Value)} {rs : List (Int × List Int)} (h : Rhs w B v us rs) (hx : Ext w w') : Rhs w' B v us rs :=
  ⟨h.1.kept (grownBy_of_ext hx none) (by cases hv : v.ownBlock <;> simp), h.2.1, fun k p r hp hr => ⟨(h.2.2.1 k p r hp hr).1, (h.2.2.1 k p r hp hr).2.ext hx⟩, h.2.2.2⟩
theorem Rhs.drew {w : World} {B : Nat} {v : Value} {us : List (Int × Value)} {rs : List (Int × List Int)} (h : Rhs w B v us rs) : Rhs w.drew B v us rs := h
theorem Rhs.base {w : World} {B B' : Nat} {v : Value} {us : List (Int × Value)} {rs : List (Int × List Int)} (h : Rhs w B v us rs) (hB : B' ≤ B) : Rhs w B' v us rs := by
  refine ⟨⟨h.1.1, ?_⟩, h.2.1, fun k p r hp hr => ⟨(h.2.2.1 k p r hp hr).1, (h.2.2.1 k p r hp hr).2.base hB⟩, h.2.2.2⟩
  rcases h.1.2 with h2 | ⟨g, cap, cur, hv, hg, r⟩
  · exact .inl h2
  · exact .inr ⟨g, cap, cur, hv, Nat.le_trans hB hg, r⟩
theorem Rhs.form {w : World} {B : Nat} {v : Value} {us : List (Int × Value)} {rs : List (Int × List Int)} (h : Rhs w B v us rs) : ∃ A c, v = .slice A us.length c ∧ us.length ≤ c ∧ c ≤ maxLen := by
  rcases h.1.2 with ⟨rfl, hn⟩ | ⟨g, cap, cur, hv, hg, _, h1, h2, _⟩
  · exact ⟨none, 0, by rw [hn], by omega, Nat.zero_le _⟩
  · exact ⟨_, cap, hv, h1, h2⟩
theorem Rhs.shape {w : World} {B : Nat} {v : Value} {us : List (Int × Value)} {rs : List (Int × List Int)} (h : Rhs w B v us rs) (hl : 0 < us.length) :
    ∃ g c, v = .slice (some ⟨g, 0, none⟩) us.length c ∧ B ≤ g ∧ g < w.heap.size ∧ us.length ≤ c := by
  rcases h.1.2 with ⟨rfl, hn⟩ | ⟨g, cap, cur, rfl, hb, hg, hnc, _⟩
  · omega
  · exact ⟨g, cap, rfl, hb, (Array.getElem?_eq_some_iff.1 hg).1, hnc⟩
theorem Rhs.cell {w : World} {B g m c : Nat} {us : List (Int × Value)} {rs : List (Int × List Int)} (h : Rhs w B (.slice (some ⟨g, 0, none⟩) m c) us rs) {k : Nat} {p : Int × Value} (hp : us[k]? = some p) :
    w.cell? ⟨g, k * 2, none⟩ = some (.int .i64 p.1) ∧ w.cell? ⟨g, k * 2 + 1, none⟩ = some p.2 := by
  have ha : ∀ j, (⟨g, 0, none⟩ : Addr).add j = ⟨g, j, none⟩ := fun j => by unfold Addr.add; split <;> simp_all
  have h1 := h.1.cells (g := g) rfl (k * 2) _ (pcs_get hp).1
  have h2 := h.1.cells (g := g) rfl (k * 2 + 1) _ (pcs_get hp).2
  rw [ha] at h1 h2
  exact ⟨h1, h2⟩
theorem Tryz.infoRhy : (Tryz.prog.info? 25).map (fun i => (i.zero, i.size, i.bytes)) = some (some (.agg #[.int .i64 0, .slice none 0 0]), 2, 32) := by kernel_rfl
theorem Apart.base {w : World} {B : Nat} {v u : Value} {l : List Int} (h : Own w B v l) (hu : ∀ k, u.ownBlock = some k → k < B) : Apart v u := by
  cases e : v.ownBlock with
  | none => exact .inl e
  | some k => right; rw [e]; intro e'; have := (h.lt k e).1; have := hu k e'.symm; omega
theorem Apart.symm' {w : World} {B : Nat} {v u : Value} {l : List Int} (h : Own w B v l) (hu : ∀ k, u.ownBlock = some k → k < B) : Apart u v := by
  cases e : u.ownBlock with
  | none => exact .inl e
  | some k => right; rw [e]; intro e'; have := (h.lt k e'.symm).1; have := hu k e; omega
/-- append(out, r): r a rhythm that has just been made. -/
theorem op_appendR {o : Oper} {a : Act} {K : Act → World → Prop} {Q : Exit → Act → World → Prop} {wr w2 w3 : World} (s x : Operand)
    (ho : o.op = .call { callee := .builtin .append, args := #[s, x], argTypes := #[67, 67] })
    {B c : Nat} {v v2 : Value} {us : List (Int × Value)} {rs : List (Int × List Int)} {n : Int} {l : List Int} {ad : Addr} (hs : a.eval s = v) (hx : a.eval x = .slice (some ad) 1 c)
    (hr : Rhs wr B v us rs) (hext : Ext wr w2) (ho2 : Own w2 wr.heap.size v2 l) (hw3 : Ext w2 w3) (hc0 : w3.cell? ad = some (.int .i64 n)) (hc1 : w3.cell? (ad.add 1) = some v2)
    (hlen : us.length ≤ 1000000) (hB : B ≤ wr.heap.size)
    (h : ∀ v' w', Rhs w' B v' (us ++ [(n, v2)]) (rs ++ [(n, l)]) → Below B wr w' → K (a.put o.dst v') w') : o.wp Tryz.prog a w3 K Q := by
  obtain ⟨i0, hi, hz0, hz1, hz2⟩ := info_parts Tryz.infoRhy
  have hr3 := hr.ext (hext.tr hw3)
  have hone : v2.oneCell' = true := by obtain ⟨A, n, c, rfl⟩ := ho2.form; rfl
  obtain ⟨v', w', hrun, h1, h2, _, h4⟩ := run_append_own_at (P := Tryz.prog) w3 B 67 o.type 25 i0 _ 2 32 Tryz.underlying67 hi hz0 hz1 hz2 rfl (by decide) v us.length _ hr3.1 ad 1 c [.int .i64 n, v2] rfl
    (by
      intro j u hj
      match j, hj with
      | 0, hj => simp at hj; subst hj; simpa [Addr.add] using hc0
      | 1, hj => simp at hj; subst hj; exact hc1)
    (by intro u hu; simp at hu; rcases hu with rfl | rfl; rfl; exact hone) (by unfold maxLen; omega) (by omega) (by have := hext.size; have := hw3.size; omega)
  have hat : ∀ k, v'.ownBlock = some k → v.ownBlock = some k ∨ w3.heap.size ≤ k := fun k hk => by
    rcases h4 with e | e
    · left; rw [← e]; exact hk
    · right; rw [e] at hk; cases hk; exact Nat.le_refl _
  have hvlt : ∀ k, v.ownBlock = some k → k < wr.heap.size := fun k hk => (hr.1.lt k hk).2
  have hs23 := hw3.size
  have hs12 := hext.size
  have hav2 : Apart v2 v := Apart.base ho2 hvlt
  have hnew : Apart v2 v' := by
    refine hav2.later (fun k hk => ((ho2.lt k hk).2)) fun k hk => ?_
    rcases hat k hk with e | e
    · exact .inl e
    · right; omega
  have hkeep : ∀ (u : Value) (m : List Int), Own w3 B u m → Apart u v → Own w' B u m := fun u m hu ha => hu.kept h2 ha
  unfold Oper.wp execOp
  simp only [ho, resolve, invoke, builtin, Sem.run_bind, Sem.run_pure, Result.andThen_ok, List.map_toArray, List.map_cons, List.map_nil, hs, hx, hrun]
  refine h v' w' ⟨?_, by simp [hr.2.1], ?_, ?_, ?_⟩ ?_
  · rw [pcs_app, List.length_append]; exact h1
  · intro k p r hp hr'
    by_cases hk : k < us.length
    · rw [List.getElem?_append_left hk] at hp
      rw [List.getElem?_append_left (by rw [← hr.2.1]; exact hk)] at hr'
      obtain ⟨h5, h6⟩ := hr3.2.2.1 k p r hp hr'
      exact ⟨h5, hkeep _ _ h6 (hr.2.2.2.1 p (List.mem_of_getElem? hp))⟩
    · have hk2 : k = us.length := by
        have := (List.getElem?_eq_some_iff.1 hp).1
        simp at this; omega
      subst hk2
      rw [List.getElem?_append_right (Nat.le_refl _)] at hp
      rw [hr.2.1, List.getElem?_append_right (Nat.le_refl _)] at hr'
      simp at hp hr'
      subst hp; subst hr'
      exact ⟨rfl, hkeep _ _ ((ho2.ext hw3).base hB) hav2⟩
  · intro p hp
    rcases List.mem_append.1 hp with hp | hp
    · obtain ⟨m, hm⟩ := hr.mem hp
      refine (hr.2.2.2.1 p hp).later (fun k hk => (hm.lt k hk).2) fun k hk => ?_
      rcases hat k hk with e | e
      · exact .inl e
      · right; omega
    · simp at hp; subst hp; exact hnew
  · rw [List.pairwise_append]
    refine ⟨hr.2.2.2.2, by simp, fun p hp q hq => ?_⟩
    simp at hq; subst hq
    obtain ⟨m, hm⟩ := hr.mem hp
    exact Apart.symm' ho2 fun k hk => (hm.lt k hk).2
  · exact (hext.tr hw3).mono hB |>.grown h2 (by omega) fun k hk => (hr.1.lt k hk).1
theorem wp_appendR {ops : Array Oper} {rest : List Oper} {o : Oper} {a : Act} {Q : Exit → Act → World → Prop} {wr w2 : World} (hgd : o.guard = none) (s x : Operand)
    (ho : o.op = .call { callee := .builtin .append, args := #[s, x], argTypes := #[67, 67] })
    {B : Nat} {v v2 : Value} {us : List (Int × Value)} {rs : List (Int × List Int)} {n : Int} {l : List Int} (hs : a.eval s = v) (hx : a.eval x = .slice (some ⟨w2.heap.size, 0, none⟩) 1 1)
    (hr : Rhs wr B v us rs) (hext : Ext wr w2) (ho2 : Own w2 wr.heap.size v2 l) (hlen : us.length ≤ 1000000) (hB : B ≤ wr.heap.size)
    (h : ∀ v' w', Rhs w' B v' (us ++ [(n, v2)]) (rs ++ [(n, l)]) → Below B wr w' → wpList Tryz.prog ops Q rest (a.put o.dst v') w') :
    wpList Tryz.prog ops Q (o :: rest) a (w2.alloc (.cells #[.int .i64 n, v2] 25)) :=
  wpList_plain hgd fun _ hK => op_appendR s x ho hs hx hr hext ho2 (one_box _ _) (cell_of_row _ w2.heap.size 0 _ _ (0, 0) (heap_alloc_new w2 _)) (by
    have ha : (⟨w2.heap.size, 0, none⟩ : Addr).add 1 = ⟨w2.heap.size, 1, none⟩ := by unfold Addr.add; split <;> simp_all
    rw [ha]; exact cell_of_row _ w2.heap.size 1 _ _ (0, 0) (heap_alloc_new w2 _)) hlen hB fun v' w' h1 h2 => hK _ _ (h v' w' h1 h2)
/-- What a call leaves that hands back a slice of rhythms. -/
def RRs (rs : List (Int × List Int)) (w : World) (e : Ending) (w' : World) : Prop := ∃ v us, e = .returned v ∧ Rhs w' w.heap.size v us rs ∧ Ext w w'
/-- the same append where the number of the new cell's block is written otherwise -/
theorem wp_append1s {ops : Array Oper} {rest : List Oper} {o : Oper} {a : Act} {Q : Exit → Act → World → Prop} {wr : World} {N : Nat} (hN : N = wr.heap.size) (hgd : o.guard = none) (s x : Operand)
    (ho : o.op = .call { callee := .builtin .append, args := #[s, x], argTypes := #[23, 23] })
    {B : Nat} {v : Value} {l : List Int} {n : Int} (hs : a.eval s = v) (hx : a.eval x = .slice (some ⟨N, 0, none⟩) 1 1)
    (hown : Own wr B v l) (hn : I64 n) (hlen : l.length ≤ 1099511627776) (hB : B ≤ wr.heap.size)
    (h : ∀ v' w', Own w' B v' (l ++ [n]) → wr.grownBy w' v.ownBlock → Below B wr w' → (∀ k, v'.ownBlock = some k → v.ownBlock = some k ∨ wr.heap.size ≤ k) → wpList Tryz.prog ops Q rest (a.put o.dst v') w') :
    wpList Tryz.prog ops Q (o :: rest) a (wr.alloc (.cells #[.int .i64 n] 3)) := by
  subst hN
  exact wp_append1 hgd s x ho hs hx hown hn hlen hB h
theorem takeS {α : Type} {l : List α} {k : Nat} {x : α} (hx : l[k]? = some x) : l.take (k + 1) = l.take k ++ [x] := by
  rw [List.take_add_one, hx]; rfl
end Go.Proofs.YtjecdmlojgmbeaaGreatDoor
