/- Words for rows of bytes that the call makes, and for strings written out as numbers. -/
import Derived.Test.YtjecdmlojgmbeaaGreatDoorMem
import Derived.Laws.BytesArg
namespace Go.Proofs.YtjecdmlojgmbeaaGreatDoor
open Go.RowKit
/-- The byte row: v owns the bytes l, in a block from B on. -/
def OwnB (w : World) (B : Nat) (v : Value) (l : List Int) : Prop := w.ownsRow B 5 1 v l.length (l.map (Value.int .u8))
theorem OwnB.kept {w w' : World} {B : Nat} {v : Value} {l : List Int} {row : Option Nat} (h : OwnB w B v l) (hg : w.grownBy w' row) (hne : v.ownBlock = none ∨ v.ownBlock ≠ row) : OwnB w' B v l := World.ownsRow.kept h hg hne
theorem OwnB.ext {w w' : World} {B : Nat} {v : Value} {l : List Int} (h : OwnB w B v l) (hb : Ext w w') : OwnB w' B v l := h.kept (grownBy_of_ext hb none) (by cases hv : v.ownBlock <;> simp)
theorem OwnB.n_eq {w : World} {B n c : Nat} {a : Option Addr} {l : List Int} (h : OwnB w B (.slice a n c) l) : n = l.length := by
  rcases h.2 with ⟨h', hn⟩ | ⟨g, cap, cur, h', _⟩
  · simp only [Value.slice.injEq] at h'; omega
  · simp only [Value.slice.injEq] at h'; omega
theorem OwnB.cell {w : World} {B g n c : Nat} {l : List Int} (h : OwnB w B (.slice (some ⟨g, 0, none⟩) n c) l) {k : Nat} {x : Int} (hx : l[k]? = some x) : w.cell? ⟨g, k, none⟩ = some (.int .u8 x) := by
  have hn := h.n_eq
  subst hn
  have hk : k < l.length := (List.getElem?_eq_some_iff.1 hx).1
  rw [World.ownsRow.cellAt h k (by omega), List.getElem?_map, hx]
  rfl
theorem OwnB.free {w : World} {B g n c : Nat} {l : List Int} (h : OwnB w B (.slice (some ⟨g, 0, none⟩) n c) l) (k : Nat) : w.frozen? ⟨g, k, none⟩ = false := by
  have hn := h.n_eq
  subst hn
  exact World.ownsRow.frozenAt h k
theorem OwnB.lt {w : World} {B : Nat} {v : Value} {l : List Int} (h : OwnB w B v l) : ∀ k, v.ownBlock = some k → B ≤ k ∧ k < w.heap.size := World.ownsRow.lt h
theorem OwnB.stored {w : World} {B g n c : Nat} {l : List Int} (h : OwnB w B (.slice (some ⟨g, 0, none⟩) n c) l) (k : Nat) (x : Int) :
    OwnB (w.setCell ⟨g, k, none⟩ (.int .u8 x)) B (.slice (some ⟨g, 0, none⟩) n c) (l.set k x) ∧ w.grownBy (w.setCell ⟨g, k, none⟩ (.int .u8 x)) (some g) := by
  have hn := h.n_eq
  subst hn
  obtain ⟨h1, h2⟩ := World.ownsRow.stored h k (.int .u8 x)
  refine ⟨?_, h2⟩
  unfold OwnB
  rw [List.length_set, List.map_set]
  exact h1
theorem Tryz.infoByte : (Tryz.prog.info? 5).map (fun i => (i.zero, i.size, i.bytes)) = some (some (.int .u8 0), 1, 1) := by kernel_rfl
/-- make([]byte, n). -/
theorem wp_makeB {ops : Array Oper} {rest : List Oper} {o : Oper} {a : Act} {Q : Exit → Act → World → Prop} {w : World} (hgd : o.guard = none) (s : Operand)
    (ho : o.op = .makeSlice 22 s s) (n : Nat) (hs : a.eval s = .int .i64 n) (hn : n ≤ 1099511627776) {B : Nat} (hB : B ≤ w.heap.size)
    (h : ∀ w', OwnB w' B (.slice (some ⟨w.heap.size, 0, none⟩) n n) (List.replicate n 0) → Ext w w' → wpList Tryz.prog ops Q rest (a.put o.dst (.slice (some ⟨w.heap.size, 0, none⟩) n n)) w') :
    wpList Tryz.prog ops Q (o :: rest) a w := by
  obtain ⟨i0, hi, hz0, hz1, hz2⟩ := info_parts Tryz.infoByte
  refine wpList_make_full w hgd s s 22 ho B 5 i0 (.int .u8 0) 1 Tryz.underlying22 hi hz0 hz1 .i64 .i64 n n n hs hs rfl rfl (by rw [hz2]; omega) (by unfold maxLen; omega) hB ?_
  intro w' h1 h2
  refine h w' ?_ ⟨h2.os, h2.tape, h2.output, h2.size, fun k hk => h2.block k hk (by simp)⟩
  have e : (madeCells (Value.cells (.int .u8 0)) (n * 1)).toList = (List.replicate n (0 : Int)).map (Value.int .u8) := by
    rw [List.map_replicate, Nat.mul_one]; exact toList_madeCells_one _ _
  rw [e] at h1
  unfold OwnB
  simpa using h1
/-- string(text) of a row of bytes of the call's own -/
theorem OwnB.string {w : World} {B g n c : Nat} {l : List Int} (h : OwnB w B (.slice (some ⟨g, 0, none⟩) n c) l) : ∀ dst, Tryz.prog.underlying dst = some .string → (convert 22 dst (.slice (some ⟨g, 0, none⟩) n c)).run Tryz.prog w = .ok (.string (strOfNums l)) w := by
  have hn := h.n_eq
  refine run_convert_bytes_arg w _ _ Tryz.underlying22 Tryz.underlying5 g 0 n c l hn.symm fun i hi => ?_
  rw [Nat.zero_add]
  exact h.cell (get_of_lt (by omega))
theorem strOfNums_app (l m : List Int) : strOfNums l ++ strOfNums m = strOfNums (l ++ m) := by
  apply ByteArray.ext
  simp [strOfNums]
end Go.Proofs.YtjecdmlojgmbeaaGreatDoor
