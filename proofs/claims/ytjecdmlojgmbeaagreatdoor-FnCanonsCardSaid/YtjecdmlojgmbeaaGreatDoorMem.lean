/- Words for memory that all walks of this seat share: a slice of ints that reads as a list; a row of ints that the call owns; worlds that only grow. -/
import Derived.WalkKit
import Derived.Handy
import Derived.Lib.Hide
import Derived.Laws.OwnMore
import Derived.Deep.QuietTactic
import Derived.BigQuiet
import Derived.Deep.RegionHeld3
import Derived.Deep.AppendLies
import Derived.Maps.AppendAt
import Derived.Test.YtjecdmlojgmbeaaGreatDoorProg
import Derived.Test.YtjecdmlojgmbeaaGreatDoorPure
namespace Go.Proofs.YtjecdmlojgmbeaaGreatDoor
open Go.RowKit

/-- The range of a 64-bit int. -/
def I64 (x : Int) : Prop := -9223372036854775808 ≤ x ∧ x ≤ 9223372036854775807

/-- The world w' has all that w had, unchanged. -/
abbrev Ext (w w' : World) : Prop := Below w.heap.size w w'

theorem Ext.rfl' (w : World) : Ext w w := Below.refl _ _
theorem Ext.tr {a b c : World} (h : Ext a b) (k : Ext b c) : Ext a c := h.trans (k.mono h.size)

/-- The value v is a slice of ints that reads as l. -/
def Ints (w : World) (v : Value) (l : List Int) : Prop :=
  ∃ A c, v = .slice A l.length c ∧ l.length ≤ c ∧ c ≤ maxLen ∧
    ∀ k x, l[k]? = some x → I64 x ∧ ∃ ad, A = some ad ∧ w.cell? (ad.add k) = some (.int .i64 x)

theorem block_of_add (a : Addr) (n : Nat) : (a.add n).block = a.block := by unfold Addr.add; split <;> rfl

theorem Ints.keep {w w' : World} {v : Value} {l : List Int} (h : Ints w v l) (hk : ∀ p : Addr, p.block < w.heap.size → w'.cell? p = w.cell? p) : Ints w' v l := by
  obtain ⟨A, c, rfl, h1, h2, h3⟩ := h
  refine ⟨A, c, rfl, h1, h2, fun k x hx => ?_⟩
  obtain ⟨hi, ad, rfl, hc⟩ := h3 k x hx
  refine ⟨hi, ad, rfl, ?_⟩
  rw [hk _ (World.block_lt_of_cell? w _ hc)]
  exact hc
theorem Ints.ext {w w' : World} {v : Value} {l : List Int} (h : Ints w v l) (hb : Ext w w') : Ints w' v l := h.keep fun _ hp => hb.cell hp
theorem Ints.drew {w : World} {v : Value} {l : List Int} (h : Ints w v l) : Ints w.drew v l := h
theorem Ints.alloc {w : World} {v : Value} {l : List Int} (h : Ints w v l) (o : Obj) : Ints (w.alloc o) v l :=
  h.keep fun p hp => World.cell?_alloc_lt w o p hp
theorem Ints.len {w : World} {v : Value} {l : List Int} (h : Ints w v l) : l.length ≤ 9223372036854775807 := by
  obtain ⟨A, c, rfl, h1, h2, _⟩ := h
  unfold maxLen at h2
  omega
theorem Ints.nil (w : World) : Ints w (.slice none 0 0) [] := ⟨none, 0, rfl, Nat.le_refl _, Nat.zero_le _, fun k x hx => by simp at hx⟩

/-- The int row: v owns the numbers l, in a block from B on. -/
def Own (w : World) (B : Nat) (v : Value) (l : List Int) : Prop :=
  w.ownsRow B 3 1 v l.length (l.map (Value.int .i64)) ∧ ∀ x ∈ l, I64 x

theorem Own.ints {w : World} {B : Nat} {v : Value} {l : List Int} (h : Own w B v l) : Ints w v l := by
  obtain ⟨⟨h1, h2⟩, hr⟩ := h
  rcases h2 with ⟨rfl, hn⟩ | ⟨g, cap, cur, rfl, hb, hg, hnc, hcm, hcs, htake⟩
  · have : l = [] := List.eq_nil_of_length_eq_zero hn
    subst this
    exact Ints.nil w
  · refine ⟨_, _, rfl, hnc, hcm, fun k x hx => ⟨hr x (List.mem_of_getElem? hx), _, rfl, ?_⟩⟩
    have hadd : (⟨g, 0, none⟩ : Addr).add k = ⟨g, k, none⟩ := by unfold Addr.add; split <;> simp_all
    rw [hadd, cell_of_row w g k cur _ (0, 0) hg]
    have hk : k < l.length := (List.getElem?_eq_some_iff.1 hx).1
    have e : (l.map (Value.int .i64))[k]? = some (.int .i64 x) := by rw [List.getElem?_map, hx]; rfl
    rw [← htake, List.getElem?_take] at e
    rw [if_pos (by omega)] at e
    simpa using e
theorem Own.nil (w : World) (B : Nat) : Own w B (.slice none 0 0) [] := ⟨World.ownsRow_nil _ _ _ _, fun _ h => by simp at h⟩
theorem Own.kept {w w' : World} {B : Nat} {v : Value} {l : List Int} {row : Option Nat} (h : Own w B v l) (hg : w.grownBy w' row) (hne : v.ownBlock = none ∨ v.ownBlock ≠ row) : Own w' B v l := ⟨h.1.kept hg hne, h.2⟩
theorem grownBy_of_ext {w w' : World} (h : Ext w w') (row : Option Nat) : w.grownBy w' row := ⟨h.os, h.tape, h.output, h.size, fun i hi _ => h.block i hi⟩
theorem grownBy_tr {a b c : World} {row : Option Nat} (h : a.grownBy b row) (k : b.grownBy c row) : a.grownBy c row :=
  ⟨k.os.trans h.os, k.tape.trans h.tape, k.output.trans h.output, Nat.le_trans h.size k.size, fun i hi hne => (k.block i (Nat.lt_of_lt_of_le hi h.size) hne).trans (h.block i hi hne)⟩
theorem Own.ext {w w' : World} {B : Nat} {v : Value} {l : List Int} (h : Own w B v l) (hb : Ext w w') : Own w' B v l :=
  h.kept (grownBy_of_ext hb none) (by cases hv : v.ownBlock <;> simp)
theorem Own.alloc {w : World} {B : Nat} {v : Value} {l : List Int} (h : Own w B v l) (o : Obj) : Own (w.alloc o) B v l := ⟨h.1.alloc o, h.2⟩
theorem Own.drew {w : World} {B : Nat} {v : Value} {l : List Int} (h : Own w B v l) : Own w.drew B v l := h
theorem Own.base {w : World} {B B' : Nat} {v : Value} {l : List Int} (h : Own w B v l) (hB : B' ≤ B) : Own w B' v l := by
  refine ⟨⟨h.1.1, ?_⟩, h.2⟩
  rcases h.1.2 with h2 | ⟨g, cap, cur, hv, hg, r⟩
  · exact .inl h2
  · exact .inr ⟨g, cap, cur, hv, Nat.le_trans hB hg, r⟩
theorem Own.slice {w : World} {B : Nat} {v : Value} {l : List Int} (h : Own w B v l) : ∃ A c, v = .slice A l.length c ∧ l.length ≤ c ∧ c ≤ maxLen := by
  obtain ⟨A, c, hv, h1, h2, _⟩ := h.ints
  exact ⟨A, c, hv, h1, h2⟩

theorem Own.shape {w : World} {B : Nat} {v : Value} {l : List Int} (h : Own w B v l) (hl : 0 < l.length) :
    ∃ g c, v = .slice (some ⟨g, 0, none⟩) l.length c ∧ B ≤ g ∧ g < w.heap.size ∧ l.length ≤ c ∧ (∀ k x, l[k]? = some x → w.cell? ⟨g, k, none⟩ = some (.int .i64 x)) ∧ ∀ k, w.frozen? ⟨g, k, none⟩ = false := by
  have h0 := h
  obtain ⟨⟨h1, h2⟩, hr⟩ := h
  rcases h2 with ⟨rfl, hn⟩ | ⟨g, cap, cur, rfl, hb, hg, hnc, hcm, hcs, htake⟩
  · omega
  · refine ⟨g, cap, rfl, hb, (Array.getElem?_eq_some_iff.1 hg).1, hnc, fun k x hx => ?_, fun k => h0.1.frozenAt k⟩
    have hk : k < l.length := (List.getElem?_eq_some_iff.1 hx).1
    rw [h0.1.cellAt k (by omega), List.getElem?_map, hx]
    rfl
theorem Own.n_eq {w : World} {B n c : Nat} {a : Option Addr} {l : List Int} (h : Own w B (.slice a n c) l) : n = l.length := by
  rcases h.1.2 with ⟨h', hn⟩ | ⟨g, cap, cur, h', _⟩
  · simp only [Value.slice.injEq] at h'; omega
  · simp only [Value.slice.injEq] at h'; omega
theorem Own.cell {w : World} {B g n c : Nat} {l : List Int} (h : Own w B (.slice (some ⟨g, 0, none⟩) n c) l) {k : Nat} {x : Int} (hx : l[k]? = some x) : w.cell? ⟨g, k, none⟩ = some (.int .i64 x) := by
  have hn := h.n_eq
  subst hn
  have hk : k < l.length := (List.getElem?_eq_some_iff.1 hx).1
  rw [h.1.cellAt k (by omega), List.getElem?_map, hx]
  rfl
theorem Own.free {w : World} {B g n c : Nat} {l : List Int} (h : Own w B (.slice (some ⟨g, 0, none⟩) n c) l) (k : Nat) : w.frozen? ⟨g, k, none⟩ = false := by
  have hn := h.n_eq
  subst hn
  exact h.1.frozenAt k
theorem Own.base_le {w : World} {B g n c : Nat} {l : List Int} (h : Own w B (.slice (some ⟨g, 0, none⟩) n c) l) : B ≤ g ∧ g < w.heap.size := h.1.lt g rfl
theorem Own.stored {w : World} {B g n c : Nat} {l : List Int} (h : Own w B (.slice (some ⟨g, 0, none⟩) n c) l) (k : Nat) {x : Int} (hx : I64 x) :
    Own (w.setCell ⟨g, k, none⟩ (.int .i64 x)) B (.slice (some ⟨g, 0, none⟩) n c) (l.set k x) ∧ w.grownBy (w.setCell ⟨g, k, none⟩ (.int .i64 x)) (some g) := by
  have hn := h.n_eq
  subst hn
  obtain ⟨h1, h2⟩ := h.1.stored k (.int .i64 x)
  refine ⟨⟨?_, ?_⟩, h2⟩
  · rw [List.length_set, List.map_set]
    exact h1
  · intro y hy
    rcases List.mem_or_eq_of_mem_set hy with h' | h'
    · exact h.2 y h'
    · rw [h']; exact hx
theorem Ext.cell_of {w w' : World} (h : Ext w w') {p : Addr} {v : Value} (hc : w.cell? p = some v) : w'.cell? p = some v := by
  rw [h.cell (World.block_lt_of_cell? w _ hc)]; exact hc
theorem Own.below {w w' : World} {B : Nat} {v : Value} {l : List Int} (h : Own w B v l) (hg : w.grownBy w' v.ownBlock) (hB : B ≤ w.heap.size) : Below B w w' :=
  (Below.refl _ _).grown hg hB fun k hk => (h.1.lt k hk).1
theorem Ints.below {w w' : World} {B : Nat} {v : Value} {l : List Int} (h : Ints w v l) (hb : Below B w w') (hB : w.heap.size ≤ B) : Ints w' v l := h.keep fun _ hp => hb.cell (Nat.lt_of_lt_of_le hp hB)

theorem Tryz.infoInt : (Tryz.prog.info? 3).map (fun i => (i.zero, i.size, i.bytes)) = some (some (.int .i64 0), 1, 8) := by kernel_rfl

/-- make([]int, n). -/
theorem wp_make1 {ops : Array Oper} {rest : List Oper} {o : Oper} {a : Act} {Q : Exit → Act → World → Prop} {w : World} (hgd : o.guard = none) (s : Operand)
    (ho : o.op = .makeSlice 23 s s) (n : Nat) (hs : a.eval s = .int .i64 n) (hn : n ≤ 1099511627776) {B : Nat} (hB : B ≤ w.heap.size)
    (h : ∀ w', Own w' B (.slice (some ⟨w.heap.size, 0, none⟩) n n) (List.replicate n 0) → Ext w w' → wpList Tryz.prog ops Q rest (a.put o.dst (.slice (some ⟨w.heap.size, 0, none⟩) n n)) w') :
    wpList Tryz.prog ops Q (o :: rest) a w := by
  obtain ⟨i0, hi, hz0, hz1, hz2⟩ := info_parts Tryz.infoInt
  refine wpList_make_full w hgd s s 23 ho B 3 i0 (.int .i64 0) 1 Tryz.underlying23 hi hz0 hz1 .i64 .i64 n n n hs hs rfl rfl (by rw [hz2]; omega) (by unfold maxLen; omega) hB ?_
  intro w' h1 h2
  refine h w' ⟨?_, ?_⟩ ⟨h2.os, h2.tape, h2.output, h2.size, fun k hk => h2.block k hk (by simp)⟩
  · have e : (madeCells (Value.cells (.int .i64 0)) (n * 1)).toList = (List.replicate n (0 : Int)).map (Value.int .i64) := by
      rw [List.map_replicate, Nat.mul_one]; exact toList_madeCells_one _ _
    rw [e] at h1
    simpa using h1
  · intro x hx
    rw [List.mem_replicate] at hx
    rw [hx.2]; unfold I64; omega

/-! What a call leaves. -/
def RB (p : Prop) (w : World) (e : Ending) (w' : World) : Prop := ∃ b, e = .returned (.bool b) ∧ (b = true ↔ p) ∧ Ext w w'
def RBs (p : Prop) (w : World) (e : Ending) (w' : World) : Prop := ∃ b, e = .returned (.bool b) ∧ (b = true ↔ p) ∧ w = w'
def RI (n : Int) (w : World) (e : Ending) (w' : World) : Prop := e = .returned (.int .i64 n) ∧ Ext w w'
def RL (l : List Int) (w : World) (e : Ending) (w' : World) : Prop := ∃ v, e = .returned v ∧ Own w' w.heap.size v l ∧ Ext w w'
theorem RBs.t {p : Prop} {w : World} (h : p) : RBs p w (.returned (.bool true)) w := ⟨true, rfl, by simp [h], rfl⟩
theorem RBs.f {p : Prop} {w : World} (h : ¬ p) : RBs p w (.returned (.bool false)) w := ⟨false, rfl, by simp [h], rfl⟩
theorem RB.t {p : Prop} {w w' : World} (h : p) (hb : Ext w w') : RB p w (.returned (.bool true)) w' := ⟨true, rfl, by simp [h], hb⟩
theorem RB.f {p : Prop} {w w' : World} (h : ¬ p) (hb : Ext w w') : RB p w (.returned (.bool false)) w' := ⟨false, rfl, by simp [h], hb⟩

theorem bool_eq {p : Prop} {a b : Bool} (ha : a = true ↔ p) (hb : b = true ↔ p) : a = b := by
  cases a <;> cases b <;> simp_all
theorem bool_f {p : Prop} {a : Bool} (ha : a = true ↔ p) (h : ¬ p) : a = false := by
  cases a with
  | false => rfl
  | true => exact absurd (ha.1 rfl) h
theorem bool_t {p : Prop} {a : Bool} (ha : a = true ↔ p) (h : p) : a = true := ha.2 h

theorem Own.lt {w : World} {B : Nat} {v : Value} {l : List Int} (h : Own w B v l) : ∀ k, v.ownBlock = some k → B ≤ k ∧ k < w.heap.size := h.1.lt
theorem Own.apart {w1 w2 : World} {B : Nat} {v0 vg : Value} {l0 lg : List Int} (h0 : Own w1 B v0 l0) (hg : Own w2 w1.heap.size vg lg) : v0.ownBlock = none ∨ v0.ownBlock ≠ vg.ownBlock := by
  cases e : v0.ownBlock with
  | none => exact .inl rfl
  | some k =>
    right
    intro e'
    have h1 := (h0.lt k e).2
    have h2 := (hg.lt k e'.symm).1
    omega
theorem Own.apart' {w1 w2 : World} {B : Nat} {v0 vg : Value} {l0 lg : List Int} (h0 : Own w1 B v0 l0) (hg : Own w2 w1.heap.size vg lg) : vg.ownBlock = none ∨ vg.ownBlock ≠ v0.ownBlock := by
  cases e : vg.ownBlock with
  | none => exact .inl rfl
  | some k =>
    right
    intro e'
    have h1 := (h0.lt k e'.symm).2
    have h2 := (hg.lt k e).1
    omega
theorem Ints.grown {w w' : World} {row : Option Nat} {v : Value} {l : List Int} (h : Ints w v l) (hg : w.grownBy w' row) (hne : v.ownBlock = none ∨ v.ownBlock ≠ row) : Ints w' v l := by
  obtain ⟨A, c, rfl, h1, h2, h3⟩ := h
  refine ⟨A, c, rfl, h1, h2, fun k x hx => ?_⟩
  obtain ⟨hi, ad, rfl, hc⟩ := h3 k x hx
  refine ⟨hi, ad, rfl, ?_⟩
  rcases hne with hne | hne
  · simp [Value.ownBlock] at hne
  · exact hg.cell hc (by rw [block_of_add]; simpa [Value.ownBlock] using hne)
theorem Own.empty {w : World} {B : Nat} (hB : B ≤ w.heap.size) : Own (w.alloc (.cells #[] 3)) B (.slice (some ⟨w.heap.size, 0, none⟩) 0 0) [] :=
  ⟨World.ownsRow_lit w #[] 0 hB (Nat.zero_le _) rfl, fun _ h => by simp at h⟩
theorem Ext.mark {w a b : World} {B : Nat} {v : Value} {l : List Int} (h : Ext w a) (ho : Own a B v l) (hg : a.grownBy b v.ownBlock) (hB : w.heap.size ≤ B) : Ext w b :=
  h.grown hg h.size fun k hk => Nat.le_trans hB (ho.lt k hk).1

theorem Ints.cell {w : World} {ad : Addr} {n c : Nat} {l : List Int} (h : Ints w (.slice (some ad) n c) l) {k : Nat} {x : Int} (hx : l[k]? = some x) : w.cell? (ad.add k) = some (.int .i64 x) := by
  obtain ⟨A, c', he, _, _, h3⟩ := h
  simp only [Value.slice.injEq] at he
  obtain ⟨rfl, _, _⟩ := he
  obtain ⟨_, ad', he, hc⟩ := h3 k x hx
  cases he
  exact hc
theorem Ints.i64 {w : World} {v : Value} {l : List Int} (h : Ints w v l) {x : Int} (hx : x ∈ l) : I64 x := by
  obtain ⟨A, c', _, _, _, h3⟩ := h
  obtain ⟨k, hk, rfl⟩ := List.getElem_of_mem hx
  exact (h3 k _ (List.getElem?_eq_getElem hk)).1
/-- the shape of a slice that reads as a list that is not empty -/
theorem Ints.form {w : World} {v : Value} {l : List Int} (h : Ints w v l) (hl : 0 < l.length) : ∃ ad c, v = .slice (some ad) l.length c ∧ l.length ≤ c ∧ c ≤ maxLen := by
  obtain ⟨A, c, rfl, h1, h2, h3⟩ := h
  obtain ⟨_, ad, rfl, _⟩ := h3 0 l[0] (List.getElem?_eq_getElem hl)
  exact ⟨ad, c, rfl, h1, h2⟩
theorem Ints.form0 {w : World} {v : Value} {l : List Int} (h : Ints w v l) : ∃ A c, v = .slice A l.length c ∧ l.length ≤ c ∧ c ≤ maxLen := by
  obtain ⟨A, c, rfl, h1, h2, h3⟩ := h
  exact ⟨A, c, rfl, h1, h2⟩
theorem below_drewN {B : Nat} {a w : World} (h : Below B a w) (n : Nat) : Below B a (w.drewN n) := ⟨h.os, h.tape, h.output, h.size, h.block⟩
theorem Own.drewN {w : World} {B : Nat} {v : Value} {l : List Int} (h : Own w B v l) (n : Nat) : Own (w.drewN n) B v l := h
theorem Ints.drewN {w : World} {v : Value} {l : List Int} (h : Ints w v l) (n : Nat) : Ints (w.drewN n) v l := h

/-- append(out, n) at one operation, in whatever world: out a row of ints that the call owns, n in the one cell at ad. -/
theorem op_append1 {o : Oper} {a : Act} {K : Act → World → Prop} {Q : Exit → Act → World → Prop} {w : World} (s x : Operand)
    (ho : o.op = .call { callee := .builtin .append, args := #[s, x], argTypes := #[23, 23] })
    {B c : Nat} {v : Value} {l : List Int} {n : Int} {ad : Addr} (hs : a.eval s = v) (hx : a.eval x = .slice (some ad) 1 c)
    (hown : Own w B v l) (hcell : w.cell? ad = some (.int .i64 n)) (hn : I64 n) (hlen : l.length ≤ 1099511627776) (hB : B ≤ w.heap.size)
    (h : ∀ v' w', Own w' B v' (l ++ [n]) → w.grownBy w' v.ownBlock → Below B w w' → (∀ k, v'.ownBlock = some k → v.ownBlock = some k ∨ w.heap.size ≤ k) → K (a.put o.dst v') w') : o.wp Tryz.prog a w K Q := by
  obtain ⟨i0, hi, hz0, hz1, hz2⟩ := info_parts Tryz.infoInt
  obtain ⟨v', w', hr, h1, h2, _, h4⟩ := run_append_own_at (P := Tryz.prog) w B 23 o.type 3 i0 (.int .i64 0) 1 8 Tryz.underlying23 hi hz0 hz1 hz2 rfl (by decide) v l.length _ hown.1 ad 1 c [.int .i64 n] rfl
    (by
      intro j u hj
      match j, hj with
      | 0, hj => simp at hj; subst hj; simpa [Addr.add] using hcell)
    (by intro u hu; simp at hu; subst hu; rfl) (by unfold maxLen; omega) (by omega) hB
  unfold Oper.wp execOp
  simp only [ho, resolve, invoke, builtin, Sem.run_bind, Sem.run_pure, Result.andThen_ok, List.map_toArray, List.map_cons, List.map_nil, hs, hx, hr]
  refine h v' w' ⟨by simpa using h1, ?_⟩ h2 (hown.below h2 hB) ?_
  · intro y hy
    rcases List.mem_append.1 hy with h' | h'
    · exact hown.2 y h'
    · simp at h'; rw [h']; exact hn
  · intro k hk
    rcases h4 with e | e
    · left; rw [← e]; exact hk
    · right; rw [e] at hk; cases hk; exact Nat.le_refl _
theorem step_append1 {ops : Array Oper} {o : Oper} {a : Act} {K : Act → World → Prop} {Q : Exit → Act → World → Prop} {E : Prop} {w : World} (hgd : o.guard = none) (s x : Operand)
    (ho : o.op = .call { callee := .builtin .append, args := #[s, x], argTypes := #[23, 23] })
    {B c : Nat} {v : Value} {l : List Int} {n : Int} {ad : Addr} (hs : a.eval s = v) (hx : a.eval x = .slice (some ad) 1 c)
    (hown : Own w B v l) (hcell : w.cell? ad = some (.int .i64 n)) (hn : I64 n) (hlen : l.length ≤ 1099511627776) (hB : B ≤ w.heap.size)
    (h : ∀ v' w', Own w' B v' (l ++ [n]) → w.grownBy w' v.ownBlock → Below B w w' → (∀ k, v'.ownBlock = some k → v.ownBlock = some k ∨ w.heap.size ≤ k) → K (a.put o.dst v') w') :
    if Region.wanted o (yielded ops a.tmps) = true then Oper.wp Tryz.prog o a w K Q else E := by
  have hw : Region.wanted o (yielded ops a.tmps) = true := by simp [Region.wanted, hgd]
  rw [if_pos hw]
  exact op_append1 s x ho hs hx hown hcell hn hlen hB h
theorem cell_new0 (w : World) (u : Value) (t : TypeId) : (w.alloc (.cells #[u] t)).cell? ⟨w.heap.size, 0, none⟩ = some u :=
  cell_of_row (w.alloc (.cells #[u] t)) w.heap.size 0 #[u] t (0, 0) (heap_alloc_new w _)
/-- append(out, n), out a row of ints that the call owns: the new cell in a block of its own. -/
theorem wp_append1 {ops : Array Oper} {rest : List Oper} {o : Oper} {a : Act} {Q : Exit → Act → World → Prop} {wr : World} (hgd : o.guard = none) (s x : Operand)
    (ho : o.op = .call { callee := .builtin .append, args := #[s, x], argTypes := #[23, 23] })
    {B : Nat} {v : Value} {l : List Int} {n : Int} (hs : a.eval s = v) (hx : a.eval x = .slice (some ⟨wr.heap.size, 0, none⟩) 1 1)
    (hown : Own wr B v l) (hn : I64 n) (hlen : l.length ≤ 1099511627776) (hB : B ≤ wr.heap.size)
    (h : ∀ v' w', Own w' B v' (l ++ [n]) → wr.grownBy w' v.ownBlock → Below B wr w' → (∀ k, v'.ownBlock = some k → v.ownBlock = some k ∨ wr.heap.size ≤ k) → wpList Tryz.prog ops Q rest (a.put o.dst v') w') :
    wpList Tryz.prog ops Q (o :: rest) a (wr.alloc (.cells #[.int .i64 n] 3)) :=
  wpList_plain hgd fun K hK => op_append1 s x ho hs hx (hown.alloc _) (cell_new0 _ _ _) hn hlen (by simp; omega) fun v' w' h1 h2 h3 h4 => by
    have hg : wr.grownBy w' v.ownBlock := by
      refine ⟨h2.os, h2.tape, h2.output, ?_, fun k hk hne => ?_⟩
      · have := h2.size; simp at this; omega
      · rw [h2.block k (by simp; omega) hne]
        exact Below.heap_alloc _ _ _ hk
    refine hK _ _ (h v' w' h1 hg (hown.below hg hB) fun k hk => ?_)
    rcases h4 k hk with e | e
    · exact .inl e
    · right; simp at e; omega
/-- two values whose rows are not one block -/
def Apart (v u : Value) : Prop := v.ownBlock = none ∨ v.ownBlock ≠ u.ownBlock
theorem Apart.later {v u u' : Value} {n : Nat} (h : Apart v u) (hv : ∀ k, v.ownBlock = some k → k < n) (hat : ∀ k, u'.ownBlock = some k → u.ownBlock = some k ∨ n ≤ k) : Apart v u' := by
  unfold Apart at *
  cases e : v.ownBlock with
  | none => exact .inl rfl
  | some k =>
    right
    intro e'
    rcases h with h | h
    · rw [e] at h; cases h
    · rcases hat k e'.symm with h' | h'
      · exact h (by rw [e, h'])
      · have := hv k e; omega
theorem cell_new (w : World) (u : Value) (t : TypeId) : (w.alloc (.cells #[u] t)).drew.cell? ⟨w.heap.size, 0, none⟩ = some u := by
  exact cell_of_row (w.alloc (.cells #[u] t)) w.heap.size 0 #[u] t (0, 0) (heap_alloc_new w _)
theorem cell_alloc {w : World} {p : Addr} {v : Value} (hc : w.cell? p = some v) (o : Obj) : (w.alloc o).drew.cell? p = some v :=
  (World.cell?_alloc_lt w o p (World.block_lt_of_cell? w _ hc)).trans hc
theorem below_old {B : Nat} {w w' : World} (h : Below B w w') {p : Addr} {v : Value} (hp : p.block < B) (hc : w.cell? p = some v) : w'.cell? p = some v := (h.cell hp).trans hc

theorem Ints.lt {w : World} {v : Value} {l : List Int} (h : Ints w v l) (hl : 0 < l.length) : ∀ k, v.ownBlock = some k → k < w.heap.size := by
  obtain ⟨A, c, rfl, h1, h2, h3⟩ := h
  obtain ⟨_, ad, rfl, hc⟩ := h3 0 l[0] (List.getElem?_eq_getElem hl)
  intro k hk
  have := World.block_lt_of_cell? w _ hc
  rw [block_of_add] at this
  simp [Value.ownBlock] at hk
  omega
end Go.Proofs.YtjecdmlojgmbeaaGreatDoor
