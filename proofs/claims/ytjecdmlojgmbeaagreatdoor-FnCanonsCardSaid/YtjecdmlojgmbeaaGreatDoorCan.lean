/- Words for canons in memory: a variable of the type Canon; what a call leaves that hands back a canon. -/
import Derived.Test.YtjecdmlojgmbeaaGreatDoorRhy
namespace Go.Proofs.YtjecdmlojgmbeaaGreatDoor
open Go.RowKit
/-- Block b is a variable of the type Canon (the program's or the laws'): two rhythms, their beats in the slices v and u. -/
def CVar (w : World) (b : Nat) (n : Int) (v : Value) (m : Int) (u : Value) : Prop := ∃ T, w.heap[b]? = some (.cells #[.int .i64 n, v, .int .i64 m, u] T (0, 0))
theorem CVar.lt {w : World} {b : Nat} {n m : Int} {v u : Value} (h : CVar w b n v m u) : b < w.heap.size := by obtain ⟨T, h⟩ := h; exact lt_of_block h
theorem CVar.c0 {w : World} {b : Nat} {n m : Int} {v u : Value} (h : CVar w b n v m u) : w.cell? ⟨b, 0, none⟩ = some (.int .i64 n) := by obtain ⟨T, h⟩ := h; exact cell_of_row w b 0 _ _ (0, 0) h
theorem CVar.c1 {w : World} {b : Nat} {n m : Int} {v u : Value} (h : CVar w b n v m u) : w.cell? ⟨b, 1, none⟩ = some v := by obtain ⟨T, h⟩ := h; exact cell_of_row w b 1 _ _ (0, 0) h
theorem CVar.c2 {w : World} {b : Nat} {n m : Int} {v u : Value} (h : CVar w b n v m u) : w.cell? ⟨b, 2, none⟩ = some (.int .i64 m) := by obtain ⟨T, h⟩ := h; exact cell_of_row w b 2 _ _ (0, 0) h
theorem CVar.c3 {w : World} {b : Nat} {n m : Int} {v u : Value} (h : CVar w b n v m u) : w.cell? ⟨b, 3, none⟩ = some u := by obtain ⟨T, h⟩ := h; exact cell_of_row w b 3 _ _ (0, 0) h
theorem CVar.f {w : World} {b : Nat} {n m : Int} {v u : Value} (h : CVar w b n v m u) (k : Nat) : w.frozen? ⟨b, k, none⟩ = false := by obtain ⟨T, h⟩ := h; exact frozen_of_row w b k _ _ h
theorem CVar.new (w : World) (n : Int) (v : Value) (m : Int) (u : Value) {T : TypeId} : CVar (w.alloc (.cells #[.int .i64 n, v, .int .i64 m, u] T)) w.heap.size n v m u := ⟨T, heap_alloc_new w _⟩
theorem CVar.kept {w w' : World} {b : Nat} {n m : Int} {v u : Value} {row : Option Nat} (h : CVar w b n v m u) (hg : w.grownBy w' row) (hne : row ≠ some b) : CVar w' b n v m u := by
  have hl := h.lt
  obtain ⟨T, h⟩ := h
  refine ⟨T, ?_⟩
  rw [hg.block b hl (fun e => hne e.symm)]
  exact h
theorem CVar.ext {w w' : World} {b : Nat} {n m : Int} {v u : Value} (h : CVar w b n v m u) (hb : Ext w w') : CVar w' b n v m u := h.kept (grownBy_of_ext hb none) (by simp)
theorem CVar.extD {w w' : World} {b : Nat} {n m : Int} {v u : Value} (h : CVar w b n v m u) (hb : Ext w.drew w') : CVar w' b n v m u := CVar.ext (w := w.drew) h hb
theorem CVar.set0 {w : World} {b : Nat} {n m k : Int} {v u : Value} (h : CVar w b n v m u) : CVar (w.setCell ⟨b, 0, none⟩ (.int .i64 k)) b k v m u := by
  obtain ⟨T, h⟩ := h; exact ⟨T, heap_setCell_same w b 0 _ _ (.int .i64 k) h⟩
theorem CVar.set1 {w : World} {b : Nat} {n m : Int} {v u x : Value} (h : CVar w b n v m u) : CVar (w.setCell ⟨b, 1, none⟩ x) b n x m u := by
  obtain ⟨T, h⟩ := h; exact ⟨T, heap_setCell_same w b 1 _ _ x h⟩
theorem CVar.set2 {w : World} {b : Nat} {n m k : Int} {v u : Value} (h : CVar w b n v m u) : CVar (w.setCell ⟨b, 2, none⟩ (.int .i64 k)) b n v k u := by
  obtain ⟨T, h⟩ := h; exact ⟨T, heap_setCell_same w b 2 _ _ (.int .i64 k) h⟩
theorem CVar.set3 {w : World} {b : Nat} {n m : Int} {v u x : Value} (h : CVar w b n v m u) : CVar (w.setCell ⟨b, 3, none⟩ x) b n v m x := by
  obtain ⟨T, h⟩ := h; exact ⟨T, heap_setCell_same w b 3 _ _ x h⟩
theorem CVar.other {w : World} {b c k : Nat} {n m : Int} {v u x : Value} (h : CVar w b n v m u) (hne : b ≠ c) : CVar (w.setCell ⟨c, k, none⟩ x) b n v m u := by
  obtain ⟨T, h⟩ := h
  exact ⟨T, by rw [heap_setCell_other w ⟨c, k, none⟩ b x hne]; exact h⟩
theorem CVar.drew {w : World} {b : Nat} {n m : Int} {v u : Value} (h : CVar w b n v m u) (k : Nat) : CVar (w.drewN k) b n v m u := h
/-- What a call leaves that hands back a canon (and a Bool): the beats in two rows of its own. -/
def RC (n : Int) (l : List Int) (m : Int) (l' : List Int) (w : World) (e : Ending) (w' : World) : Prop := ∃ v u, e = .returned (.agg #[.int .i64 n, v, .int .i64 m, u]) ∧ Own w' w.heap.size v l ∧ Own w' w.heap.size u l' ∧ Apart v u ∧ Ext w w'
def RCB (n : Int) (l : List Int) (m : Int) (l' : List Int) (b : Bool) (w : World) (e : Ending) (w' : World) : Prop := ∃ v u, e = .returned (.tuple #[.agg #[.int .i64 n, v, .int .i64 m, u], .bool b]) ∧ Own w' w.heap.size v l ∧ Own w' w.heap.size u l' ∧ Apart v u ∧ Ext w w'
theorem Apart.rowC {v u : Value} (h : Apart v u) : u.ownBlock = none ∨ u.ownBlock ≠ v.ownBlock := by
  rcases h with h | h
  · rw [h]; cases u.ownBlock <;> simp
  · exact .inr fun e => h e.symm
theorem Apart.nil (u : Value) : Apart (.slice none 0 0) u := .inl rfl
theorem Ext.setAt {w a : World} (h : Ext w a) (b k : Nat) (x : Value) (hb : w.heap.size ≤ b) : Ext w (a.setCell ⟨b, k, none⟩ x) := Below.setCell h hb x
/-- A canon moves into a variable, block b. -/
theorem retc_fin {w wr : World} {B b : Nat} {n m n0 m0 : Int} {u0 u1 v u : Value} {l r : List Int} (h0 : CVar wr b n0 u0 m0 u1) (ho : Own wr B v l) (hp : Own wr B u r) (hb : b < B) (hx : Ext w wr) (hwb : w.heap.size ≤ b) :
    CVar ((((wr.setCell ⟨b, 0, none⟩ (.int .i64 n)).setCell ⟨b, 1, none⟩ v).setCell ⟨b, 2, none⟩ (.int .i64 m)).setCell ⟨b, 3, none⟩ u) b n v m u ∧
    Own ((((wr.setCell ⟨b, 0, none⟩ (.int .i64 n)).setCell ⟨b, 1, none⟩ v).setCell ⟨b, 2, none⟩ (.int .i64 m)).setCell ⟨b, 3, none⟩ u) B v l ∧
    Own ((((wr.setCell ⟨b, 0, none⟩ (.int .i64 n)).setCell ⟨b, 1, none⟩ v).setCell ⟨b, 2, none⟩ (.int .i64 m)).setCell ⟨b, 3, none⟩ u) B u r ∧
    Ext w ((((wr.setCell ⟨b, 0, none⟩ (.int .i64 n)).setCell ⟨b, 1, none⟩ v).setCell ⟨b, 2, none⟩ (.int .i64 m)).setCell ⟨b, 3, none⟩ u) :=
  ⟨h0.set0.set1.set2.set3, (((ho.other hb).other hb).other hb).other hb, (((hp.other hb).other hb).other hb).other hb, (((hx.setCell hwb _).setCell hwb _).setCell hwb _).setCell hwb _⟩
end Go.Proofs.YtjecdmlojgmbeaaGreatDoor
