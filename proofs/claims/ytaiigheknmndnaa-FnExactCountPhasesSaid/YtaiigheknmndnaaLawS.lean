/- Contracts of the laws' own helpers on slices of rhythms: eqRhythmS, markRhythmS, heldRhythmS. -/
import Derived.Test.YtaiigheknmndnaaRhs
import Derived.Test.YtaiigheknmndnaaLawR
namespace Go.Proofs.Ytaiigheknmndnaa
open Go.RowKit
theorem Apart.row {v u : Value} (h : Apart v u) : u.ownBlock = none ∨ u.ownBlock ≠ v.ownBlock := by
  rcases h with h | h
  · rw [h]; cases u.ownBlock <;> simp
  · exact .inr fun e => h e.symm
theorem ownsRow_by {w1 w2 : World} {base : Nat} {e : TypeId} {size : Nat} {v : Value} {n : Nat} {xs : List Value} (h : w1.ownsRow base e size v n xs) (hb : ∀ k, v.ownBlock = some k → w2.heap[k]? = w1.heap[k]?) : w2.ownsRow base e size v n xs := by
  refine ⟨h.1, ?_⟩
  rcases h.2 with hn | ⟨g, cap, cur, rfl, hB, hgg, rest⟩
  · exact .inl hn
  · refine .inr ⟨g, cap, cur, rfl, hB, ?_, rest⟩
    rw [hb g rfl]
    exact hgg
theorem Own.by {w1 w2 : World} {B : Nat} {v : Value} {l : List Int} (h : Own w1 B v l) (hb : ∀ k, v.ownBlock = some k → w2.heap[k]? = w1.heap[k]?) : Own w2 B v l := ⟨ownsRow_by h.1 hb, h.2⟩
/-- k is a block of this row or of one of its rhythms -/
def Rhs.Has (v : Value) (us : List (Int × Value)) (k : Nat) : Prop := v.ownBlock = some k ∨ ∃ p ∈ us, p.2.ownBlock = some k
theorem Rhs.by {w1 w2 : World} {B : Nat} {v : Value} {us : List (Int × Value)} {rs : List (Int × List Int)} (h : Rhs w1 B v us rs) (hb : ∀ k, Rhs.Has v us k → w2.heap[k]? = w1.heap[k]?) : Rhs w2 B v us rs :=
  ⟨ownsRow_by h.1 fun k hk => hb k (.inl hk), h.2.1, fun k p r hp hr => ⟨(h.2.2.1 k p r hp hr).1, (h.2.2.1 k p r hp hr).2.by fun j hj => hb j (.inr ⟨p, List.mem_of_getElem? hp, hj⟩)⟩, h.2.2.2⟩
theorem Rhs.lt {w : World} {B : Nat} {v : Value} {us : List (Int × Value)} {rs : List (Int × List Int)} (h : Rhs w B v us rs) : ∀ k, Rhs.Has v us k → B ≤ k ∧ k < w.heap.size := by
  rintro k (hk | ⟨p, hp, hk⟩)
  · exact h.1.lt k hk
  · obtain ⟨l, hl⟩ := h.mem hp
    exact hl.lt k hk
theorem Own.keptB {w0 w1 w2 : World} {B0 B : Nat} {v : Value} {l l0 : List Int} (h : Own w1 B v l) (h0 : Own w0 B0 v l0) (hb : Below w0.heap.size w1 w2) : Own w2 B v l := h.by fun k hk => hb.block k (h0.lt k hk).2
theorem Rhs.keptB {w0 w1 w2 : World} {B0 B : Nat} {v : Value} {us : List (Int × Value)} {rs rs0 : List (Int × List Int)} (h : Rhs w1 B v us rs) (h0 : Rhs w0 B0 v us rs0) (hb : Below w0.heap.size w1 w2) : Rhs w2 B v us rs := h.by fun k hk => hb.block k (h0.lt k hk).2
theorem Rhs.keptLow {w w' : World} {B : Nat} {v : Value} {us : List (Int × Value)} {rs : List (Int × List Int)} {row : Option Nat} (h : Rhs w B v us rs) (hg : w.grownBy w' row) (hrow : ∀ k, row = some k → k < B) : Rhs w' B v us rs :=
  h.by fun k hk => hg.block k (h.lt k hk).2 fun e => by have := hrow k e.symm; have := (h.lt k hk).1; omega
theorem Rhs.keptHigh {w0 w w' : World} {B B0 : Nat} {v : Value} {us : List (Int × Value)} {rs rs0 : List (Int × List Int)} {row : Option Nat} (h0 : Rhs w0 B0 v us rs0) (h : Rhs w B v us rs) (hg : w.grownBy w' row) (hrow : ∀ k, row = some k → w0.heap.size ≤ k) : Rhs w' B v us rs :=
  h.by fun k hk => hg.block k (h.lt k hk).2 fun e => by have := hrow k e.symm; have := (h0.lt k hk).2; omega
theorem RVar.keptB {w1 w2 : World} {B b : Nat} {n : Int} {v : Value} (h : RVar w1 b n v) (hlt : b < B) (hb : Below B w1 w2) : RVar w2 b n v := by
  obtain ⟨T, h⟩ := h
  exact ⟨T, by rw [hb.block b hlt]; exact h⟩
theorem Ext.markS {w a b : World} {B : Nat} (h : Ext w a) (hb : Below B a b) (hB : w.heap.size ≤ B) : Ext w b := h.trans (hb.mono hB)
theorem rhs_elem {w : World} {B : Nat} {v : Value} {us : List (Int × Value)} {rs : List (Int × List Int)} (h : Rhs w B v us rs) {k : Nat} (hk : k < us.length) :
    ∃ g c n A m cc l, v = .slice (some ⟨g, 0, none⟩) us.length c ∧ us[k]? = some (n, .slice A m cc) ∧ rs[k]? = some (n, l) ∧ m = l.length ∧ w.cell? ⟨g, k * 2, none⟩ = some (.int .i64 n) ∧ w.cell? ⟨g, k * 2 + 1, none⟩ = some (.slice A m cc) ∧ Own w B (.slice A m cc) l := by
  obtain ⟨g, c, hv, _⟩ := h.shape (by omega)
  subst hv
  have hp : us[k]? = some us[k] := List.getElem?_eq_getElem hk
  have hk2 : k < rs.length := by rw [← h.2.1]; exact hk
  have hr : rs[k]? = some rs[k] := List.getElem?_eq_getElem hk2
  obtain ⟨h1, h2⟩ := h.2.2.1 k _ _ hp hr
  obtain ⟨c0, c1⟩ := h.cell hp
  obtain ⟨A, m, cc, he⟩ := h2.form
  rw [he] at c1 h2
  exact ⟨g, c, us[k].1, A, m, cc, rs[k].2, rfl, by rw [hp, ← he], by rw [hr, h1], h2.n_eq, c0, c1, h2⟩
/-- the marks of a slice of rhythms, from k on -/
def mkR (k : Nat) : List (Int × List Int) → List (Int × List Int)
  | [] => []
  | r :: t => ((k : Int), marks (k + 1) r.2.length) :: mkR (k + 1 + r.2.length) t
def endR (k : Nat) : List (Int × List Int) → Nat
  | [] => k
  | r :: t => endR (k + 1 + r.2.length) t
theorem mkR_len (k : Nat) (rs : List (Int × List Int)) : (mkR k rs).length = rs.length := by
  induction rs generalizing k with
  | nil => rfl
  | cons r t ih => simp [mkR, ih]
theorem mkR_snoc (k : Nat) (rs : List (Int × List Int)) (r : Int × List Int) : mkR k (rs ++ [r]) = mkR k rs ++ [(((endR k rs : Nat) : Int), marks (endR k rs + 1) r.2.length)] := by
  induction rs generalizing k with
  | nil => rfl
  | cons r0 t ih => simp only [List.cons_append, mkR, endR, ih]
theorem endR_snoc (k : Nat) (rs : List (Int × List Int)) (r : Int × List Int) : endR k (rs ++ [r]) = endR k rs + 1 + r.2.length := by
  induction rs generalizing k with
  | nil => rfl
  | cons r0 t ih => simp only [List.cons_append, endR, ih]
theorem endR_le (k : Nat) (rs : List (Int × List Int)) (h : ∀ r ∈ rs, r.2.length ≤ 1000) : endR k rs ≤ k + rs.length * 1001 := by
  induction rs generalizing k with
  | nil => simp [endR]
  | cons r t ih =>
    rw [endR]
    have h1 := ih (k + 1 + r.2.length) fun x hx => h x (List.mem_cons_of_mem _ hx)
    have h2 := h r (List.mem_cons_self ..)
    rw [List.length_cons]; omega
theorem mkR_get {k j : Nat} {rs : List (Int × List Int)} {r : Int × List Int} (h : rs[j]? = some r) : (mkR k rs)[j]? = some (((endR k (rs.take j) : Nat) : Int), marks (endR k (rs.take j) + 1) r.2.length) := by
  have hj := (List.getElem?_eq_some_iff.1 h).1
  have h1 : mkR k (rs.take (j + 1)) = mkR k (rs.take j) ++ [(((endR k (rs.take j) : Nat) : Int), marks (endR k (rs.take j) + 1) r.2.length)] := by rw [takeS h, mkR_snoc]
  have h2 : ∀ (a b : List (Int × List Int)) (k : Nat), ∃ c, mkR k (a ++ b) = mkR k a ++ c := by
    intro a
    induction a with
    | nil => intro b k; exact ⟨mkR k b, rfl⟩
    | cons x t ih => intro b k; obtain ⟨c, hc⟩ := ih b (k + 1 + x.2.length); exact ⟨c, by simp only [List.cons_append, mkR, hc]⟩
  obtain ⟨c, hc⟩ := h2 (rs.take (j + 1)) (rs.drop (j + 1)) k
  rw [List.take_append_drop] at hc
  rw [hc, h1]
  have hl : (mkR k (rs.take j)).length = j := by rw [mkR_len, List.length_take]; omega
  rw [List.append_assoc, List.getElem?_append_right (by omega), hl, Nat.sub_self]
  rfl
theorem pcs_set {us : List (Int × Value)} {j : Nat} {p : Int × Value} (k : Int) (hp : us[j]? = some p) : pcs (us.set j (k, p.2)) = (pcs us).set (j * 2) (.int .i64 k) := by
  induction us generalizing j with
  | nil => simp at hp
  | cons q t ih =>
    cases j with
    | zero => simp at hp; subst hp; simp [pcs]
    | succ j =>
      have h' : t[j]? = some p := by simpa using hp
      rw [show (j + 1) * 2 = j * 2 + 1 + 1 by omega]
      simp [pcs, ih h']
theorem snd_set {us : List (Int × Value)} {j : Nat} {p : Int × Value} (k : Int) (hp : us[j]? = some p) : (us.set j (k, p.2)).map Prod.snd = us.map Prod.snd := by
  apply List.ext_getElem?
  intro i
  rw [List.getElem?_map, List.getElem?_map, List.getElem?_set]
  split
  · rename_i e
    subst e
    split
    · rw [hp]; rfl
    · rename_i h; rw [List.getElem?_eq_none (by omega)]
  · rfl
theorem Rhs.setSize {w : World} {B g m c j : Nat} {us : List (Int × Value)} {rs : List (Int × List Int)} {p : Int × Value} {r : Int × List Int} (h : Rhs w B (.slice (some ⟨g, 0, none⟩) m c) us rs) (hp : us[j]? = some p) (hr : rs[j]? = some r) (k : Int) :
    Rhs (w.setCell ⟨g, j * 2, none⟩ (.int .i64 k)) B (.slice (some ⟨g, 0, none⟩) m c) (us.set j (k, p.2)) (rs.set j (k, r.2)) ∧ w.grownBy (w.setCell ⟨g, j * 2, none⟩ (.int .i64 k)) (some g) := by
  have hm : m = us.length := by
    obtain ⟨A, c', he, _⟩ := h.form
    simp only [Value.slice.injEq] at he
    exact he.2.1
  subst hm
  obtain ⟨h1, h2⟩ := h.1.stored (j * 2) (.int .i64 k)
  have hs := snd_set k hp
  refine ⟨⟨?_, by simp [h.2.1], ?_, ?_, ?_⟩, h2⟩
  · rw [pcs_set k hp, List.length_set]; exact h1
  · intro i q s hq hs'
    by_cases e : i = j
    · subst e
      have hi := (List.getElem?_eq_some_iff.1 hp).1
      rw [List.getElem?_set_self hi] at hq
      rw [List.getElem?_set_self (by rw [← h.2.1]; exact hi)] at hs'
      cases hq; cases hs'
      exact ⟨rfl, (h.2.2.1 i p r hp hr).2.kept h2 (h.2.2.2.1 p (List.mem_of_getElem? hp))⟩
    · rw [List.getElem?_set_ne (fun e' => e e'.symm)] at hq hs'
      exact ⟨(h.2.2.1 i q s hq hs').1, (h.2.2.1 i q s hq hs').2.kept h2 (h.2.2.2.1 q (List.mem_of_getElem? hq))⟩
  · intro q hq
    have : q.2 ∈ us.map Prod.snd := by rw [← hs]; exact List.mem_map_of_mem hq
    obtain ⟨q', hq', he⟩ := List.mem_map.1 this
    rw [← he]; exact h.2.2.2.1 q' hq'
  · have h3 : (us.map Prod.snd).Pairwise Apart := List.pairwise_map.2 h.2.2.2.2
    rw [← hs] at h3
    exact List.pairwise_map.1 h3
theorem Rhs.free {w : World} {B g m c : Nat} {us : List (Int × Value)} {rs : List (Int × List Int)} (h : Rhs w B (.slice (some ⟨g, 0, none⟩) m c) us rs) (k : Nat) : w.frozen? ⟨g, k, none⟩ = false := by
  have hm : m = us.length := by
    obtain ⟨A, c', he, _⟩ := h.form
    simp only [Value.slice.injEq] at he
    exact he.2.1
  subst hm
  exact h.1.frozenAt k
theorem Rhs.markBeats {w w' : World} {B j : Nat} {v : Value} {us : List (Int × Value)} {rs : List (Int × List Int)} {p : Int × Value} {r : Int × List Int} {l' : List Int} (h : Rhs w B v us rs) (hp : us[j]? = some p) (hr : rs[j]? = some r) (ho : Own w' B p.2 l') (hg : w.grownBy w' p.2.ownBlock) :
    Rhs w' B v us (rs.set j (r.1, l')) := by
  have hap := h.2.2.2.1 p (List.mem_of_getElem? hp)
  obtain ⟨hj, hpj⟩ := List.getElem?_eq_some_iff.1 hp
  refine ⟨h.1.kept hg hap.row, by simp [h.2.1], ?_, h.2.2.2⟩
  intro i q s hq hs
  by_cases e : i = j
  · subst e
    rw [hp] at hq; cases hq
    rw [List.getElem?_set_self (by rw [← h.2.1]; exact hj)] at hs
    cases hs
    exact ⟨(h.2.2.1 i p r hp hr).1, ho⟩
  · rw [List.getElem?_set_ne (fun e' => e e'.symm)] at hs
    refine ⟨(h.2.2.1 i q s hq hs).1, (h.2.2.1 i q s hq hs).2.kept hg ?_⟩
    obtain ⟨hi, hqi⟩ := List.getElem?_eq_some_iff.1 hq
    have hpw := List.pairwise_iff_getElem.1 h.2.2.2.2
    rcases Nat.lt_or_ge i j with hlt | hge
    · have := hpw i j hi hj hlt
      rw [hqi, hpj] at this
      exact this
    · have := hpw j i hj hi (by omega)
      rw [hqi, hpj] at this
      exact this.row
theorem mk_cur {k j : Nat} {rs : List (Int × List Int)} (hj : j ≤ rs.length) : (mkR k (rs.take j) ++ rs.drop j)[j]? = rs[j]? := by
  have hl : (mkR k (rs.take j)).length = j := by rw [mkR_len, List.length_take]; omega
  rw [List.getElem?_append_right (by omega), hl, Nat.sub_self, List.getElem?_drop, Nat.add_zero]
theorem mk_set {k j : Nat} {rs : List (Int × List Int)} {r : Int × List Int} (h : rs[j]? = some r) :
    (mkR k (rs.take j) ++ rs.drop j).set j (((endR k (rs.take j) : Nat) : Int), marks (endR k (rs.take j) + 1) r.2.length) = mkR k (rs.take (j + 1)) ++ rs.drop (j + 1) := by
  have hj := (List.getElem?_eq_some_iff.1 h).1
  have hl : (mkR k (rs.take j)).length = j := by rw [mkR_len, List.length_take]; omega
  rw [List.set_append_right _ _ (by omega), hl, Nat.sub_self, List.drop_eq_getElem_cons hj, List.set_cons_zero, takeS h, mkR_snoc, List.append_assoc]
  rfl
end Go.Proofs.Ytaiigheknmndnaa
