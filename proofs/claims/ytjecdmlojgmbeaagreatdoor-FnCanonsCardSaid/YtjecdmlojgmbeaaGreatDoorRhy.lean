/- Words for rhythms in memory: a variable of the type Rhythm; what a call leaves that hands back a rhythm. -/
import Derived.Test.YtjecdmlojgmbeaaGreatDoorMem
import Derived.Test.YtjecdmlojgmbeaaGreatDoorPureR
import Derived.OneCell
namespace Go.Proofs.YtjecdmlojgmbeaaGreatDoor
open Go.RowKit

/-- Block b is a variable of the type Rhythm (the program's or the laws'): n pulses, the beats in the slice v. -/
def RVar (w : World) (b : Nat) (n : Int) (v : Value) : Prop := ∃ T, w.heap[b]? = some (.cells #[.int .i64 n, v] T (0, 0))
theorem RVar.lt {w : World} {b : Nat} {n : Int} {v : Value} (h : RVar w b n v) : b < w.heap.size := by obtain ⟨T, h⟩ := h; exact lt_of_block h
theorem RVar.c0 {w : World} {b : Nat} {n : Int} {v : Value} (h : RVar w b n v) : w.cell? ⟨b, 0, none⟩ = some (.int .i64 n) := by obtain ⟨T, h⟩ := h; exact cell_of_row w b 0 _ _ (0, 0) h
theorem RVar.c1 {w : World} {b : Nat} {n : Int} {v : Value} (h : RVar w b n v) : w.cell? ⟨b, 1, none⟩ = some v := by obtain ⟨T, h⟩ := h; exact cell_of_row w b 1 _ _ (0, 0) h
theorem RVar.f {w : World} {b : Nat} {n : Int} {v : Value} (h : RVar w b n v) (k : Nat) : w.frozen? ⟨b, k, none⟩ = false := by obtain ⟨T, h⟩ := h; exact frozen_of_row w b k _ _ h
theorem RVar.new (w : World) (n : Int) (v : Value) {T : TypeId} : RVar (w.alloc (.cells #[.int .i64 n, v] T)) w.heap.size n v := ⟨T, heap_alloc_new w _⟩
theorem RVar.kept {w w' : World} {b : Nat} {n : Int} {v : Value} {row : Option Nat} (h : RVar w b n v) (hg : w.grownBy w' row) (hne : row ≠ some b) : RVar w' b n v := by
  have hl := h.lt
  obtain ⟨T, h⟩ := h
  refine ⟨T, ?_⟩
  rw [hg.block b hl (fun e => hne e.symm)]
  exact h
theorem RVar.ext {w w' : World} {b : Nat} {n : Int} {v : Value} (h : RVar w b n v) (hb : Ext w w') : RVar w' b n v := h.kept (grownBy_of_ext hb none) (by simp)
theorem RVar.extD {w w' : World} {b : Nat} {n : Int} {v : Value} (h : RVar w b n v) (hb : Ext w.drew w') : RVar w' b n v := RVar.ext (w := w.drew) h hb
theorem Ext.ofD {w w' : World} (h : Ext w.drew w') : Ext w w' := ⟨h.os, h.tape, h.output, h.size, h.block⟩
theorem RVar.set0 {w : World} {b : Nat} {n m : Int} {v : Value} (h : RVar w b n v) : RVar (w.setCell ⟨b, 0, none⟩ (.int .i64 m)) b m v := by
  obtain ⟨T, h⟩ := h
  exact ⟨T, heap_setCell_same w b 0 _ _ (.int .i64 m) h⟩
theorem RVar.set1 {w : World} {b : Nat} {n : Int} {v u : Value} (h : RVar w b n v) : RVar (w.setCell ⟨b, 1, none⟩ u) b n u := by
  obtain ⟨T, h⟩ := h
  exact ⟨T, heap_setCell_same w b 1 _ _ u h⟩
theorem RVar.other {w : World} {b c k : Nat} {n : Int} {v u : Value} (h : RVar w b n v) (hne : b ≠ c) : RVar (w.setCell ⟨c, k, none⟩ u) b n v := by
  obtain ⟨T, h⟩ := h
  exact ⟨T, by rw [heap_setCell_other w ⟨c, k, none⟩ b u hne]; exact h⟩
theorem Own.other {w : World} {B c k : Nat} {v u : Value} {l : List Int} (h : Own w B v l) (hne : c < B) : Own (w.setCell ⟨c, k, none⟩ u) B v l := by
  refine ⟨ownsRow_setCell_other h.1 (fun e => ?_) u, h.2⟩
  have := (h.lt c e).1
  omega
/-- the same behind a region that draws -/
theorem RVar.allocD {w : World} {b : Nat} {n : Int} {v : Value} (h : RVar w b n v) (o : Obj) : RVar (w.alloc o).drew b n v := by
  have h1 := h.ext (Below.alloc (Below.refl _ _) (Nat.le_refl _) o)
  exact h1
theorem Ext.allocD (w : World) (o : Obj) : Ext w (w.alloc o).drew := Below.drew (Below.alloc (Below.refl _ _) (Nat.le_refl _) o)
theorem Own.ne_lt {w : World} {B b : Nat} {v : Value} {l : List Int} (h : Own w B v l) (hb : b < B) : v.ownBlock ≠ some b := fun e => by have := (h.lt b e).1; omega
theorem Own.ne_ge {w : World} {B b : Nat} {v : Value} {l : List Int} (h : Own w B v l) (hb : w.heap.size ≤ b) : v.ownBlock ≠ some b := fun e => by have := (h.lt b e).2; omega
/-- two boxed parameters of the type Rhythm -/
theorem two_boxes (w : World) (o o' : Obj) : Ext w ((w.alloc o).alloc o') := ((Below.refl _ _).alloc (Nat.le_refl _) _).alloc (by simp) _
theorem one_box (w : World) (o : Obj) : Ext w (w.alloc o) := (Below.refl _ _).alloc (Nat.le_refl _) _
theorem RVar.drew {w : World} {b : Nat} {n : Int} {v : Value} (h : RVar w b n v) (k : Nat) : RVar (w.drewN k) b n v := h

/-- a field of a rhythm that lies in no variable -/
theorem fld1 (n : Int) (A : Option Addr) (k c : Nat) (w : World) : (Instr.field 25 (.agg #[.int .i64 n, .slice A k c]) 1).run Tryz.prog w = .ok (.slice A k c) w := by kernel_rfl
theorem fld0 (n : Int) (A : Option Addr) (k c : Nat) (w : World) : (Instr.field 25 (.agg #[.int .i64 n, .slice A k c]) 0).run Tryz.prog w = .ok (.int .i64 n) w := by kernel_rfl
/-- What a call leaves that hands back a rhythm, or a rhythm and a Bool: the beats in a row of its own. -/
def RR (n : Int) (l : List Int) (w : World) (e : Ending) (w' : World) : Prop := ∃ v, e = .returned (.agg #[.int .i64 n, v]) ∧ Own w' w.heap.size v l ∧ Ext w w'
def RRB (n : Int) (l : List Int) (b : Bool) (w : World) (e : Ending) (w' : World) : Prop := ∃ v, e = .returned (.tuple #[.agg #[.int .i64 n, v], .bool b]) ∧ Own w' w.heap.size v l ∧ Ext w w'
theorem Own.form {w : World} {B : Nat} {v : Value} {l : List Int} (h : Own w B v l) : ∃ A n c, v = .slice A n c := by
  obtain ⟨A, c, hv, _, _⟩ := h.slice
  exact ⟨A, _, c, hv⟩
/-- A rhythm moves into the result's variable, which is block w.heap.size. -/
theorem ret_fin {w wr : World} {B : Nat} {n m : Int} {u v : Value} {l : List Int} (h0 : RVar wr w.heap.size m u) (ho : Own wr B v l) (hB : w.heap.size + 1 ≤ B) (hx : Ext w wr) :
    RVar ((wr.setCell ⟨w.heap.size, 0, none⟩ (.int .i64 n)).setCell ⟨w.heap.size, 1, none⟩ v) w.heap.size n v ∧ Own ((wr.setCell ⟨w.heap.size, 0, none⟩ (.int .i64 n)).setCell ⟨w.heap.size, 1, none⟩ v) w.heap.size v l ∧ Ext w ((wr.setCell ⟨w.heap.size, 0, none⟩ (.int .i64 n)).setCell ⟨w.heap.size, 1, none⟩ v) :=
  ⟨h0.set0.set1, ((ho.other (by omega)).other (by omega)).base (by omega), (hx.setCell (by simp) _).setCell (by simp) _⟩
/-- The result's variable, and a row in the making. -/
def ROut (w wr : World) (v : Value) (l : List Int) : Prop := RVar wr w.heap.size 0 (.slice none 0 0) ∧ Own wr (w.heap.size + 1) v l ∧ Ext w wr
theorem ROut.start0 (w : World) : ROut w (w.alloc (.cells #[.int .i64 0, .slice none 0 0] 25)) (.slice none 0 0) [] :=
  ⟨RVar.new w 0 _, Own.nil _ _, (Below.refl _ _).alloc (Nat.le_refl _) _⟩
theorem ROut.start (w : World) : ROut w ((w.alloc (.cells #[.int .i64 0, .slice none 0 0] 25)).alloc (.cells #[] 3)) (.slice (some ⟨w.heap.size + 1, 0, none⟩) 0 0) [] := by
  refine ⟨(RVar.new w 0 _).ext ((Below.refl _ _).alloc (Nat.le_refl _) _), ?_, ((Below.refl _ _).alloc (Nat.le_refl _) _).alloc (by simp) _⟩
  have := Own.empty (w := w.alloc (.cells #[.int .i64 0, .slice none 0 0] 25)) (Nat.le_refl _)
  simp only [World.size_alloc] at this
  exact this
theorem ROut.size {w wr : World} {v : Value} {l : List Int} (h : ROut w wr v l) : w.heap.size + 1 ≤ wr.heap.size := h.1.lt
theorem ROut.app {w wr w' : World} {v v' : Value} {l l' : List Int} (h : ROut w wr v l) (ho : Own w' (w.heap.size + 1) v' l') (hg : wr.grownBy w' v.ownBlock) : ROut w w' v' l' := by
  refine ⟨h.1.kept hg fun e => ?_, ho, h.2.2.grown hg h.2.2.size fun k hk => by have := (h.2.1.lt k hk).1; omega⟩
  have := (h.2.1.lt _ e).1
  omega
theorem ROut.ext {w wr w' : World} {v : Value} {l : List Int} (h : ROut w wr v l) (hx : Ext wr w') : ROut w w' v l := ⟨h.1.ext hx, h.2.1.ext hx, h.2.2.tr hx⟩
/-- The two variables of a call that builds a rhythm: block B0 is the result's, block B0 + 1 the one in the making. -/
def RIn (w wr : World) (n : Int) (v : Value) (l : List Int) : Prop :=
  RVar wr w.heap.size 0 (.slice none 0 0) ∧ RVar wr (w.heap.size + 1) n v ∧ Own wr (w.heap.size + 2) v l ∧ Ext w wr
theorem RIn.start (w : World) (n : Int) : RIn w ((w.alloc (.cells #[.int .i64 0, .slice none 0 0] 25)).alloc (.cells #[.int .i64 n, .slice none 0 0] 25)) n (.slice none 0 0) [] := by
  refine ⟨(RVar.new w 0 _).ext ((Below.refl _ _).alloc (Nat.le_refl _) _), ?_, Own.nil _ _, ((Below.refl _ _).alloc (Nat.le_refl _) _).alloc (by simp) _⟩
  have := RVar.new (T := 25) (w.alloc (.cells #[.int .i64 0, .slice none 0 0] 25)) n (.slice none 0 0)
  simpa only [World.size_alloc] using this
theorem RIn.ext {w wr w' : World} {n : Int} {v : Value} {l : List Int} (h : RIn w wr n v l) (hx : Ext wr w') : RIn w w' n v l :=
  ⟨h.1.ext hx, h.2.1.ext hx, h.2.2.1.ext hx, h.2.2.2.tr hx⟩
theorem RIn.allocD {w wr : World} {n : Int} {v : Value} {l : List Int} (h : RIn w wr n v l) (o : Obj) : RIn w (wr.alloc o).drew n v l := by
  have hx : Ext wr (wr.alloc o).drew := ((Below.refl _ _).alloc (Nat.le_refl _) _).drew
  exact h.ext hx
theorem RIn.size {w wr : World} {n : Int} {v : Value} {l : List Int} (h : RIn w wr n v l) : w.heap.size + 2 ≤ wr.heap.size := h.2.1.lt
theorem RIn.ne {w wr : World} {n : Int} {v : Value} {l : List Int} (h : RIn w wr n v l) {b : Nat} (hb : b < w.heap.size + 2) : v.ownBlock ≠ some b := by
  intro e
  have := (h.2.2.1.lt b e).1
  omega
/-- behind an append, ahead of the store -/
theorem RIn.app {w wr w' : World} {n : Int} {v v' : Value} {l l' : List Int} (h : RIn w wr n v l) (ho : Own w' (w.heap.size + 2) v' l') (hg : wr.grownBy w' v.ownBlock) :
    RVar w' w.heap.size 0 (.slice none 0 0) ∧ RVar w' (w.heap.size + 1) n v ∧ RIn w (w'.setCell ⟨w.heap.size + 1, 1, none⟩ v') n v' l' := by
  have h0 := h.1.kept hg (h.ne (by omega))
  have h1 := h.2.1.kept hg (h.ne (by omega))
  refine ⟨h0, h1, h0.other (by omega), h1.set1, ho.other (by omega), ?_⟩
  refine Below.setCell ?_ (by simp) _
  exact h.2.2.2.grown hg h.2.2.2.size fun k hk => by have := (h.2.2.1.lt k hk).1; omega
/-- at the end: the rhythm moves into the result's variable -/
theorem RIn.fin {w wr : World} {n : Int} {v : Value} {l : List Int} (h : RIn w wr n v l) :
    RVar ((wr.setCell ⟨w.heap.size, 0, none⟩ (.int .i64 n)).setCell ⟨w.heap.size, 1, none⟩ v) w.heap.size n v ∧ Own ((wr.setCell ⟨w.heap.size, 0, none⟩ (.int .i64 n)).setCell ⟨w.heap.size, 1, none⟩ v) w.heap.size v l ∧ Ext w ((wr.setCell ⟨w.heap.size, 0, none⟩ (.int .i64 n)).setCell ⟨w.heap.size, 1, none⟩ v) :=
  ⟨h.1.set0.set1, ((h.2.2.1.other (by omega)).other (by omega)).base (by omega), (h.2.2.2.setCell (by simp) _).setCell (by simp) _⟩
end Go.Proofs.YtjecdmlojgmbeaaGreatDoor
