/- Words for slices of strings in memory: a row of strings that the call owns. -/
import Derived.Test.YtjecdmlojgmbeaaGreatDoorMem
namespace Go.Proofs.YtjecdmlojgmbeaaGreatDoor
open Go.RowKit
/-- The row v holds the strings ss: us are the values that lie in it. -/
def Sss (w : World) (B : Nat) (v : Value) (us : List Value) (ss : List ByteArray) : Prop :=
  w.ownsRow B 9 1 v us.length us ∧ us = ss.map Value.string
theorem Sss.len {w : World} {B : Nat} {v : Value} {us : List Value} {ss : List ByteArray} (h : Sss w B v us ss) : us.length = ss.length := by rw [h.2, List.length_map]
theorem Sss.nil (w : World) (B : Nat) : Sss w B (.slice none 0 0) [] [] := ⟨World.ownsRow_nil _ _ _ _, rfl⟩
theorem Sss.empty {w : World} {B : Nat} (hB : B ≤ w.heap.size) : Sss (w.alloc (.cells #[] 9)) B (.slice (some ⟨w.heap.size, 0, none⟩) 0 0) [] [] :=
  ⟨World.ownsRow_lit w #[] 0 hB (Nat.zero_le _) rfl, rfl⟩
theorem Sss.ext {w w' : World} {B : Nat} {v : Value} {us : List Value} {ss : List ByteArray} (h : Sss w B v us ss) (hx : Ext w w') : Sss w' B v us ss :=
  ⟨h.1.kept (grownBy_of_ext hx none) (by cases hv : v.ownBlock <;> simp), h.2⟩
theorem Sss.drew {w : World} {B : Nat} {v : Value} {us : List Value} {ss : List ByteArray} (h : Sss w B v us ss) : Sss w.drew B v us ss := h
theorem Sss.base {w : World} {B B' : Nat} {v : Value} {us : List Value} {ss : List ByteArray} (h : Sss w B v us ss) (hB : B' ≤ B) : Sss w B' v us ss := by
  refine ⟨⟨h.1.1, ?_⟩, h.2⟩
  rcases h.1.2 with h2 | ⟨g, cap, cur, hv, hg, r⟩
  · exact .inl h2
  · exact .inr ⟨g, cap, cur, hv, Nat.le_trans hB hg, r⟩
theorem Sss.form {w : World} {B : Nat} {v : Value} {us : List Value} {ss : List ByteArray} (h : Sss w B v us ss) : ∃ A c, v = .slice A us.length c ∧ us.length ≤ c ∧ c ≤ maxLen := by
  rcases h.1.2 with ⟨rfl, hn⟩ | ⟨g, cap, cur, hv, hg, _, h1, h2, _⟩
  · exact ⟨none, 0, by rw [hn], by omega, Nat.zero_le _⟩
  · exact ⟨_, cap, hv, h1, h2⟩
theorem Sss.shape {w : World} {B : Nat} {v : Value} {us : List Value} {ss : List ByteArray} (h : Sss w B v us ss) (hl : 0 < us.length) :
    ∃ g c, v = .slice (some ⟨g, 0, none⟩) us.length c ∧ B ≤ g ∧ g < w.heap.size ∧ us.length ≤ c := by
  rcases h.1.2 with ⟨rfl, hn⟩ | ⟨g, cap, cur, rfl, hb, hg, hnc, _⟩
  · omega
  · exact ⟨g, cap, rfl, hb, (Array.getElem?_eq_some_iff.1 hg).1, hnc⟩
theorem Sss.cell {w : World} {B g m c : Nat} {us : List Value} {ss : List ByteArray} (h : Sss w B (.slice (some ⟨g, 0, none⟩) m c) us ss) {k : Nat} {s : ByteArray} (hs : ss[k]? = some s) : w.cell? ⟨g, k, none⟩ = some (.string s) := by
  have ha : ∀ j, (⟨g, 0, none⟩ : Addr).add j = ⟨g, j, none⟩ := fun j => by unfold Addr.add; split <;> simp_all
  have hu : us[k]? = some (.string s) := by rw [h.2, List.getElem?_map, hs]; rfl
  have h1 := h.1.cells (g := g) rfl k _ hu
  rw [ha] at h1
  exact h1
theorem Sss.free {w : World} {B g m c : Nat} {us : List Value} {ss : List ByteArray} (h : Sss w B (.slice (some ⟨g, 0, none⟩) m c) us ss) (k : Nat) : w.frozen? ⟨g, k, none⟩ = false := by
  have hm : m = us.length := by obtain ⟨A, c', hv, _⟩ := h.form; simp only [Value.slice.injEq] at hv; exact hv.2.1
  subst hm
  exact World.ownsRow.frozenAt h.1 k
theorem Sss.lt {w : World} {B : Nat} {v : Value} {us : List Value} {ss : List ByteArray} (h : Sss w B v us ss) : ∀ k, v.ownBlock = some k → B ≤ k ∧ k < w.heap.size := World.ownsRow.lt h.1
theorem Sss.kept {w w' : World} {B : Nat} {v : Value} {us : List Value} {ss : List ByteArray} {row : Option Nat} (h : Sss w B v us ss) (hg : w.grownBy w' row) (hne : v.ownBlock = none ∨ v.ownBlock ≠ row) : Sss w' B v us ss := ⟨World.ownsRow.kept h.1 hg hne, h.2⟩
theorem Sss.keptB {w0 w1 w2 : World} {B0 B : Nat} {v : Value} {us : List Value} {ss ss0 : List ByteArray} (h : Sss w1 B v us ss) (h0 : Sss w0 B0 v us ss0) (hb : Below w0.heap.size w1 w2) : Sss w2 B v us ss := by
  refine ⟨⟨h.1.1, ?_⟩, h.2⟩
  rcases h.1.2 with h2 | ⟨g, cap, cur, hv, hg, hw, r⟩
  · exact .inl h2
  · exact .inr ⟨g, cap, cur, hv, hg, by rw [hb.block g (h0.lt g (by rw [hv]; rfl)).2]; exact hw, r⟩
theorem Sss.keptLow {w w' : World} {B : Nat} {v : Value} {us : List Value} {ss : List ByteArray} {row : Option Nat} (h : Sss w B v us ss) (hg : w.grownBy w' row) (hrow : ∀ k, row = some k → k < B) : Sss w' B v us ss := by
  refine h.kept hg ?_
  cases e : v.ownBlock with
  | none => exact .inl rfl
  | some k => right; intro e'; have := (h.lt k e).1; have := hrow k e'.symm; omega
theorem Sss.keptHigh {w0 w w' : World} {B B0 : Nat} {v : Value} {us : List Value} {ss ss0 : List ByteArray} {row : Option Nat} (h0 : Sss w0 B0 v us ss0) (h : Sss w B v us ss) (hg : w.grownBy w' row) (hrow : ∀ k, row = some k → w0.heap.size ≤ k) : Sss w' B v us ss := by
  refine h.kept hg ?_
  cases e : v.ownBlock with
  | none => exact .inl rfl
  | some k => right; intro e'; have := (h0.lt k e).2; have := hrow k e'.symm; omega
theorem Sss.stored {w : World} {B g m c k : Nat} {us : List Value} {ss : List ByteArray} (h : Sss w B (.slice (some ⟨g, 0, none⟩) m c) us ss) (s : ByteArray) :
    Sss (w.setCell ⟨g, k, none⟩ (.string s)) B (.slice (some ⟨g, 0, none⟩) m c) (us.set k (.string s)) (ss.set k s) ∧ w.grownBy (w.setCell ⟨g, k, none⟩ (.string s)) (some g) := by
  have hm : m = us.length := by obtain ⟨A, c', hv, _⟩ := h.form; simp only [Value.slice.injEq] at hv; exact hv.2.1
  subst hm
  obtain ⟨h1, h2⟩ := World.ownsRow.stored h.1 k (.string s)
  refine ⟨⟨?_, by rw [h.2, List.map_set]⟩, h2⟩
  rw [List.length_set]
  exact h1
theorem Tryz.infoStr : (Tryz.prog.info? 9).map (fun i => (i.zero, i.size, i.bytes)) = some (some (.string ⟨#[]⟩), 1, 16) := by kernel_rfl
/-- append(out, s). -/
theorem op_appendStr {o : Oper} {a : Act} {K : Act → World → Prop} {Q : Exit → Act → World → Prop} {w : World} (s x : Operand)
    (ho : o.op = .call { callee := .builtin .append, args := #[s, x], argTypes := #[42, 42] })
    {B c : Nat} {v : Value} {us : List Value} {ss : List ByteArray} {t : ByteArray} {ad : Addr} (hs : a.eval s = v) (hx : a.eval x = .slice (some ad) 1 c)
    (hr : Sss w B v us ss) (hcell : w.cell? ad = some (.string t)) (hlen : us.length ≤ 1000000) (hB : B ≤ w.heap.size)
    (h : ∀ v' w', Sss w' B v' (us ++ [.string t]) (ss ++ [t]) → w.grownBy w' v.ownBlock → Below B w w' → K (a.put o.dst v') w') : o.wp Tryz.prog a w K Q := by
  obtain ⟨i0, hi, hz0, hz1, hz2⟩ := info_parts Tryz.infoStr
  obtain ⟨v', w', hrun, h1, h2, _, h4⟩ := run_append_own_at (P := Tryz.prog) w B 42 o.type 9 i0 _ 1 16 Tryz.underlying42 hi hz0 hz1 hz2 rfl (by decide) v us.length _ hr.1 ad 1 c [.string t] rfl
    (by
      intro j u hj
      match j, hj with
      | 0, hj => simp at hj; subst hj; simpa [Addr.add] using hcell)
    (by intro u hu; simp at hu; subst hu; rfl) (by unfold maxLen; omega) (by omega) hB
  unfold Oper.wp execOp
  simp only [ho, resolve, invoke, builtin, Sem.run_bind, Sem.run_pure, Result.andThen_ok, List.map_toArray, List.map_cons, List.map_nil, hs, hx, hrun]
  refine h v' w' ⟨?_, by rw [hr.2]; simp⟩ h2 ?_
  · rw [List.length_append]; exact h1
  · exact (Below.refl _ _).grown h2 hB fun k hk => (hr.1.lt k hk).1
/-- the same where the walk has laid the string in a block of its own -/
theorem wp_appendStr {ops : Array Oper} {rest : List Oper} {o : Oper} {a : Act} {Q : Exit → Act → World → Prop} {wr w2 : World} {N : Nat} (hN : N = w2.heap.size) (hgd : o.guard = none) (s x : Operand)
    (ho : o.op = .call { callee := .builtin .append, args := #[s, x], argTypes := #[42, 42] })
    {B : Nat} {v : Value} {us : List Value} {ss : List ByteArray} {t : ByteArray} (hs : a.eval s = v) (hx : a.eval x = .slice (some ⟨N, 0, none⟩) 1 1)
    (hr : Sss wr B v us ss) (hext : Ext wr w2) (hlen : us.length ≤ 1000000) (hB : B ≤ wr.heap.size)
    (h : ∀ v' w', Sss w' B v' (us ++ [.string t]) (ss ++ [t]) → Below B wr w' → wpList Tryz.prog ops Q rest (a.put o.dst v') w') :
    wpList Tryz.prog ops Q (o :: rest) a (w2.alloc (.cells #[.string t] 9)) := by
  subst hN
  have hxx := hext.tr ((Below.refl _ _).alloc (Nat.le_refl _) (.cells #[.string t] 9))
  refine wpList_plain hgd fun _ hK => op_appendStr (t := t) s x ho hs hx (hr.ext hxx) (cell_new0 _ _ _) hlen (by have := hxx.size; omega) fun v' w' h1 _ h2 => hK _ _ (h v' w' h1 ((hxx.mono hB).trans h2))
/-- What a call leaves that hands back a slice of strings. -/
def RSs (ss : List ByteArray) (w : World) (e : Ending) (w' : World) : Prop := ∃ v us, e = .returned v ∧ Sss w' w.heap.size v us ss ∧ Ext w w'
theorem takeT {α : Type} {l : List α} {k : Nat} {x : α} (hx : l[k]? = some x) : l.take (k + 1) = l.take k ++ [x] := by
  rw [List.take_add_one, hx]; rfl
end Go.Proofs.YtjecdmlojgmbeaaGreatDoor
