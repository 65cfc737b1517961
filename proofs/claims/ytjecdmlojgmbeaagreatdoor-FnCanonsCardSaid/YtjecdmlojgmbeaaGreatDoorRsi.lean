/- Words for a row of rhythms whose beats may be shared, each with a property; append onto it. -/
import Derived.Test.YtjecdmlojgmbeaaGreatDoorRhs
import Derived.Test.YtjecdmlojgmbeaaGreatDoorFcat
import Derived.Maps.Range
namespace Go.Proofs.YtjecdmlojgmbeaaGreatDoor
open Go.RowKit
def RsI (w : World) (B : Nat) (v : Value) (us : List (Int × Value)) (P : Int × List Int → Prop) : Prop :=
  w.ownsRow B 25 2 v us.length (pcs us) ∧ ∀ p ∈ us, Apart p.2 v ∧ ∃ l, P (p.1, l) ∧ Own w B p.2 l
theorem RsI.empty {w : World} {B : Nat} {P : Int × List Int → Prop} (hB : B ≤ w.heap.size) : RsI (w.alloc (.cells #[] 25)) B (.slice (some ⟨w.heap.size, 0, none⟩) 0 0) [] P :=
  ⟨World.ownsRow_lit w #[] 0 hB (Nat.zero_le _) rfl, fun p h => by simp at h⟩
theorem RsI.ext {w w' : World} {B : Nat} {v : Value} {us : List (Int × Value)} {P : Int × List Int → Prop} (h : RsI w B v us P) (hx : Ext w w') : RsI w' B v us P :=
  ⟨h.1.kept (grownBy_of_ext hx none) (by cases hv : v.ownBlock <;> simp), fun p hp => by obtain ⟨h1, l, h2, h3⟩ := h.2 p hp; exact ⟨h1, l, h2, h3.ext hx⟩⟩
theorem RsI.base {w : World} {B B' : Nat} {v : Value} {us : List (Int × Value)} {P : Int × List Int → Prop} (h : RsI w B v us P) (hB : B' ≤ B) : RsI w B' v us P := by
  refine ⟨⟨h.1.1, ?_⟩, fun p hp => by obtain ⟨h1, l, h2, h3⟩ := h.2 p hp; exact ⟨h1, l, h2, h3.base hB⟩⟩
  rcases h.1.2 with h2 | ⟨g, cap, cur, hv, hg, r⟩
  · exact .inl h2
  · exact .inr ⟨g, cap, cur, hv, Nat.le_trans hB hg, r⟩
theorem RsI.form {w : World} {B : Nat} {v : Value} {us : List (Int × Value)} {P : Int × List Int → Prop} (h : RsI w B v us P) : ∃ A c, v = .slice A us.length c ∧ us.length ≤ c ∧ c ≤ maxLen := by
  rcases h.1.2 with ⟨rfl, hn⟩ | ⟨g, cap, cur, hv, hg, _, h1, h2, _⟩
  · exact ⟨none, 0, by rw [hn], by omega, Nat.zero_le _⟩
  · exact ⟨_, cap, hv, h1, h2⟩
theorem RsI.shape {w : World} {B : Nat} {v : Value} {us : List (Int × Value)} {P : Int × List Int → Prop} (h : RsI w B v us P) (hl : 0 < us.length) :
    ∃ g c, v = .slice (some ⟨g, 0, none⟩) us.length c ∧ B ≤ g ∧ g < w.heap.size ∧ us.length ≤ c := by
  rcases h.1.2 with ⟨rfl, hn⟩ | ⟨g, cap, cur, rfl, hb, hg, hnc, _⟩
  · omega
  · exact ⟨g, cap, rfl, hb, (Array.getElem?_eq_some_iff.1 hg).1, hnc⟩
theorem RsI.cell {w : World} {B g m c : Nat} {us : List (Int × Value)} {P : Int × List Int → Prop} (h : RsI w B (.slice (some ⟨g, 0, none⟩) m c) us P) {k : Nat} {p : Int × Value} (hp : us[k]? = some p) :
    w.cell? ⟨g, k * 2, none⟩ = some (.int .i64 p.1) ∧ w.cell? ⟨g, k * 2 + 1, none⟩ = some p.2 := by
  have ha : ∀ j, (⟨g, 0, none⟩ : Addr).add j = ⟨g, j, none⟩ := fun j => by unfold Addr.add; split <;> simp_all
  have h1 := h.1.cells (g := g) rfl (k * 2) _ (pcs_get hp).1
  have h2 := h.1.cells (g := g) rfl (k * 2 + 1) _ (pcs_get hp).2
  rw [ha] at h1 h2
  exact ⟨h1, h2⟩
theorem RsI.lt {w : World} {B : Nat} {v : Value} {us : List (Int × Value)} {P : Int × List Int → Prop} (h : RsI w B v us P) : ∀ k, v.ownBlock = some k → B ≤ k ∧ k < w.heap.size := h.1.lt
/-- What a call leaves that hands back such a row, grown from the caller's. -/
def FO (B : Nat) (P : Int × List Int → Prop) (M : Nat) (out : Value) (w : World) (e : Ending) (w' : World) : Prop :=
  ∃ v us, e = .returned v ∧ RsI w' B v us P ∧ us.length ≤ M ∧ w.grownBy w' out.ownBlock ∧ ∀ k, v.ownBlock = some k → out.ownBlock = some k ∨ w.heap.size ≤ k
theorem FO.same {B M : Nat} {P : Int × List Int → Prop} {out : Value} {w w' : World} {us : List (Int × Value)} (h : RsI w B out us P) (hM : us.length ≤ M) (hx : Ext w w') : FO B P M out w (.returned out) w' :=
  ⟨out, us, rfl, h.ext hx, hM, grownBy_of_ext hx _, fun _ hk => .inl hk⟩
theorem FO.of {B M M' : Nat} {P : Int × List Int → Prop} {out : Value} {w0 w w' : World} {e : Ending} (h : FO B P M out w e w') (hx : Ext w0 w) (hM : M ≤ M') : FO B P M' out w0 e w' := by
  obtain ⟨v, us, h1, h2, h3, h4, h5⟩ := h
  refine ⟨v, us, h1, h2, by omega, grownBy_tr (grownBy_of_ext hx _) h4, fun k hk => ?_⟩
  rcases h5 k hk with h | h
  · exact .inl h
  · exact .inr (Nat.le_trans hx.size h)
/-- one call behind another -/
theorem FO.tr {B M M' : Nat} {P : Int × List Int → Prop} {out v : Value} {w0 w1 w2 w3 : World} {e : Ending} (hg : w0.grownBy w1 out.ownBlock) (hat : ∀ k, v.ownBlock = some k → out.ownBlock = some k ∨ w0.heap.size ≤ k) (hx : Ext w1 w2) (h : FO B P M v w2 e w3) (hM : M ≤ M') : FO B P M' out w0 e w3 := by
  obtain ⟨v', us, h1, h2, h3, h4, h5⟩ := h
  refine ⟨v', us, h1, h2, by omega, (grownBy_tr hg (grownBy_of_ext hx _)).andThen h4 fun j hj => (hat j hj).symm, fun k hk => ?_⟩
  rcases h5 k hk with h | h
  · exact hat k h
  · exact .inr (Nat.le_trans hg.size (Nat.le_trans hx.size h))
theorem wp_appendI {ops : Array Oper} {rest : List Oper} {o : Oper} {a : Act} {Q : Exit → Act → World → Prop} {w2 : World} {N : Nat} (hN : N = w2.heap.size) (hgd : o.guard = none) (s x : Operand)
    (ho : o.op = .call { callee := .builtin .append, args := #[s, x], argTypes := #[67, 67] })
    {B : Nat} {v v2 : Value} {us : List (Int × Value)} {P : Int × List Int → Prop} {n : Int} {l : List Int} (hs : a.eval s = v) (hx : a.eval x = .slice (some ⟨N, 0, none⟩) 1 1)
    (hr : RsI w2 B v us P) (ho2 : Own w2 B v2 l) (hP : P (n, l)) (hav : Apart v2 v) (hlen : us.length ≤ 1000000) (hB : B ≤ w2.heap.size)
    (h : ∀ v' w', FO B P (us.length + 1) v w2 (.returned v') w' → wpList Tryz.prog ops Q rest (a.put o.dst v') w') :
    wpList Tryz.prog ops Q (o :: rest) a (w2.alloc (.cells #[.int .i64 n, v2] 25)) := by
  subst hN
  refine wpList_plain hgd fun _ hK => ?_
  obtain ⟨i0, hi, hz0, hz1, hz2⟩ := info_parts Tryz.infoRhy
  have hw3 := one_box w2 (.cells #[.int .i64 n, v2] 25)
  have hr3 := hr.ext hw3
  have hone : v2.oneCell' = true := by obtain ⟨A, n, c, rfl⟩ := ho2.form; rfl
  have hc0 : (w2.alloc (.cells #[.int .i64 n, v2] 25)).cell? ⟨w2.heap.size, 0, none⟩ = some (.int .i64 n) := cell_of_row _ w2.heap.size 0 _ _ (0, 0) (heap_alloc_new w2 _)
  have hc1 : (w2.alloc (.cells #[.int .i64 n, v2] 25)).cell? ((⟨w2.heap.size, 0, none⟩ : Addr).add 1) = some v2 := by
    have ha : (⟨w2.heap.size, 0, none⟩ : Addr).add 1 = ⟨w2.heap.size, 1, none⟩ := by unfold Addr.add; split <;> simp_all
    rw [ha]; exact cell_of_row _ w2.heap.size 1 _ _ (0, 0) (heap_alloc_new w2 _)
  obtain ⟨v', w', hrun, h1, h2, _, h4⟩ := run_append_own_at (P := Tryz.prog) (w2.alloc (.cells #[.int .i64 n, v2] 25)) B 67 o.type 25 i0 _ 2 32 Tryz.underlying67 hi hz0 hz1 hz2 rfl (by decide) v us.length _ hr3.1 ⟨w2.heap.size, 0, none⟩ 1 1 [.int .i64 n, v2] rfl
    (by
      intro j u hj
      match j, hj with
      | 0, hj =>
        simp at hj
        subst hj
        have ha : (⟨w2.heap.size, 0, none⟩ : Addr).add 0 = ⟨w2.heap.size, 0, none⟩ := by unfold Addr.add; split <;> simp_all
        rw [ha]
        exact hc0
      | 1, hj => simp at hj; subst hj; exact hc1)
    (by intro u hu; simp at hu; rcases hu with rfl | rfl; rfl; exact hone) (by unfold maxLen; omega) (by omega) (by have := hw3.size; omega)
  have hat : ∀ k, v'.ownBlock = some k → v.ownBlock = some k ∨ w2.heap.size ≤ k := fun k hk => by
    rcases h4 with e | e
    · left; rw [← e]; exact hk
    · right; rw [e] at hk; cases hk; exact hw3.size
  have hnew : ∀ (u : Value) (m : List Int), Own w2 B u m → Apart u v → Apart u v' ∧ Own w' B u m := fun u m hu ha => by
    refine ⟨ha.later (fun k hk => (hu.lt k hk).2) hat, (hu.ext hw3).kept h2 ha⟩
  unfold Oper.wp execOp
  simp only [ho, resolve, invoke, builtin, Sem.run_bind, Sem.run_pure, Result.andThen_ok, List.map_toArray, List.map_cons, List.map_nil, hs, hx, hrun]
  refine hK _ _ (h v' w' ⟨v', us ++ [(n, v2)], rfl, ⟨?_, ?_⟩, by simp, grownBy_tr (grownBy_of_ext hw3 _) h2, hat⟩)
  · rw [pcs_app, List.length_append]; exact h1
  · intro p hp
    rcases List.mem_append.1 hp with hp | hp
    · obtain ⟨h5, l', h6, h7⟩ := hr.2 p hp
      exact ⟨(hnew _ _ h7 h5).1, l', h6, (hnew _ _ h7 h5).2⟩
    · simp at hp; subst hp
      exact ⟨(hnew _ _ ho2 hav).1, l, hP, (hnew _ _ ho2 hav).2⟩
end Go.Proofs.YtjecdmlojgmbeaaGreatDoor
