/- Words for slices of slices of ints in memory: a row of slices that the call owns, each with numbers of its own, no two in one block. -/
import Derived.Test.YtpnbcgnbkanebaaDoorMem
namespace Go.Proofs.YtpnbcgnbkanebaaDoor
open Go.RowKit
/-- The row v holds the lists ls: us are the slices that lie in it. -/
def Lss (w : World) (B : Nat) (v : Value) (us : List Value) (ls : List (List Int)) : Prop :=
  w.ownsRow B 22 1 v us.length us ∧ us.length = ls.length ∧
  (∀ (k : Nat) (u : Value) (l : List Int), us[k]? = some u → ls[k]? = some l → Own w B u l) ∧ (∀ u ∈ us, Apart u v) ∧ us.Pairwise Apart
theorem Lss.nil (w : World) (B : Nat) : Lss w B (.slice none 0 0) [] [] := ⟨World.ownsRow_nil _ _ _ _, rfl, fun k p r h => by simp at h, fun p h => by simp at h, List.Pairwise.nil⟩
theorem Lss.empty {w : World} {B : Nat} (hB : B ≤ w.heap.size) : Lss (w.alloc (.cells #[] 22)) B (.slice (some ⟨w.heap.size, 0, none⟩) 0 0) [] [] :=
  ⟨World.ownsRow_lit w #[] 0 hB (Nat.zero_le _) rfl, rfl, fun k p r h => by simp at h, fun p h => by simp at h, List.Pairwise.nil⟩
theorem Lss.mem {w : World} {B : Nat} {v : Value} {us : List Value} {ls : List (List Int)} (h : Lss w B v us ls) {u : Value} (hu : u ∈ us) : ∃ l, Own w B u l := by
  obtain ⟨k, hk, rfl⟩ := List.getElem_of_mem hu
  have hk2 : k < ls.length := by rw [← h.2.1]; exact hk
  exact ⟨_, h.2.2.1 k _ _ (List.getElem?_eq_getElem hk) (List.getElem?_eq_getElem hk2)⟩
theorem Lss.ext {w w' : World} {B : Nat} {v : Value} {us : List Value} {ls : List (List Int)} (h : Lss w B v us ls) (hx : Ext w w') : Lss w' B v us ls :=
  ⟨h.1.kept (grownBy_of_ext hx none) (by cases hv : v.ownBlock <;> simp), h.2.1, fun k p r hp hr => (h.2.2.1 k p r hp hr).ext hx, h.2.2.2⟩
theorem Lss.drew {w : World} {B : Nat} {v : Value} {us : List Value} {ls : List (List Int)} (h : Lss w B v us ls) : Lss w.drew B v us ls := h
theorem Lss.base {w : World} {B B' : Nat} {v : Value} {us : List Value} {ls : List (List Int)} (h : Lss w B v us ls) (hB : B' ≤ B) : Lss w B' v us ls := by
  refine ⟨⟨h.1.1, ?_⟩, h.2.1, fun k p r hp hr => (h.2.2.1 k p r hp hr).base hB, h.2.2.2⟩
  rcases h.1.2 with h2 | ⟨g, cap, cur, hv, hg, r⟩
  · exact .inl h2
  · exact .inr ⟨g, cap, cur, hv, Nat.le_trans hB hg, r⟩
theorem Lss.form {w : World} {B : Nat} {v : Value} {us : List Value} {ls : List (List Int)} (h : Lss w B v us ls) : ∃ A c, v = .slice A us.length c ∧ us.length ≤ c ∧ c ≤ maxLen := by
  rcases h.1.2 with ⟨rfl, hn⟩ | ⟨g, cap, cur, hv, hg, _, h1, h2, _⟩
  · exact ⟨none, 0, by rw [hn], by omega, Nat.zero_le _⟩
  · exact ⟨_, cap, hv, h1, h2⟩
theorem Lss.shape {w : World} {B : Nat} {v : Value} {us : List Value} {ls : List (List Int)} (h : Lss w B v us ls) (hl : 0 < us.length) :
    ∃ g c, v = .slice (some ⟨g, 0, none⟩) us.length c ∧ B ≤ g ∧ g < w.heap.size ∧ us.length ≤ c := by
  rcases h.1.2 with ⟨rfl, hn⟩ | ⟨g, cap, cur, rfl, hb, hg, hnc, _⟩
  · omega
  · exact ⟨g, cap, rfl, hb, (Array.getElem?_eq_some_iff.1 hg).1, hnc⟩
theorem Lss.cell {w : World} {B g m c : Nat} {us : List Value} {ls : List (List Int)} (h : Lss w B (.slice (some ⟨g, 0, none⟩) m c) us ls) {k : Nat} {u : Value} (hu : us[k]? = some u) : w.cell? ⟨g, k, none⟩ = some u := by
  have ha : ∀ j, (⟨g, 0, none⟩ : Addr).add j = ⟨g, j, none⟩ := fun j => by unfold Addr.add; split <;> simp_all
  have h1 := h.1.cells (g := g) rfl k _ hu
  rw [ha] at h1
  exact h1
theorem Tryd.infoSl : (Tryd.prog.info? 22).map (fun i => (i.zero, i.size, i.bytes)) = some (some (.slice none 0 0), 1, 24) := by kernel_rfl
theorem Apart.baseL {w : World} {B : Nat} {v u : Value} {l : List Int} (h : Own w B v l) (hu : ∀ k, u.ownBlock = some k → k < B) : Apart v u := by
  cases e : v.ownBlock with
  | none => exact .inl e
  | some k => right; rw [e]; intro e'; have := (h.lt k e).1; have := hu k e'.symm; omega
theorem Apart.symmL {w : World} {B : Nat} {v u : Value} {l : List Int} (h : Own w B v l) (hu : ∀ k, u.ownBlock = some k → k < B) : Apart u v := by
  cases e : u.ownBlock with
  | none => exact .inl e
  | some k => right; rw [e]; intro e'; have := (h.lt k e'.symm).1; have := hu k e; omega
/-- append(out, xs...): xs slices of the call's own. -/
theorem op_appendG {o : Oper} {a : Act} {K : Act → World → Prop} {Q : Exit → Act → World → Prop} {w : World} (s x : Operand)
    (ho : o.op = .call { callee := .builtin .append, args := #[s, x], argTypes := #[30, 30] })
    {B m c : Nat} {v : Value} {us us2 : List Value} {ls ls2 : List (List Int)} {ad : Addr} (hs : a.eval s = v) (hx : a.eval x = .slice (some ad) m c)
    (hr : Lss w B v us ls) (hm : m = us2.length) (hl2 : us2.length = ls2.length)
    (hcells : ∀ (j : Nat) (u : Value), us2[j]? = some u → w.cell? (ad.add j) = some u) (hown2 : ∀ (k : Nat) (u : Value) (l : List Int), us2[k]? = some u → ls2[k]? = some l → Own w B u l) (hpw : us2.Pairwise Apart)
    (hav : ∀ u ∈ us2, Apart u v) (hau : ∀ p ∈ us, ∀ q ∈ us2, Apart p q)
    (hlen : us.length + us2.length ≤ 1000000000) (hB : B ≤ w.heap.size)
    (h : ∀ v' w', Lss w' B v' (us ++ us2) (ls ++ ls2) → w.grownBy w' v.ownBlock → Below B w w' → (∀ k, v'.ownBlock = some k → v.ownBlock = some k ∨ w.heap.size ≤ k) → K (a.put o.dst v') w') : o.wp Tryd.prog a w K Q := by
  obtain ⟨i0, hi, hz0, hz1, hz2⟩ := info_parts Tryd.infoSl
  subst hm
  have hmem2 : ∀ u ∈ us2, ∃ l, Own w B u l := fun u hu => by
    obtain ⟨k, hk, rfl⟩ := List.getElem_of_mem hu
    have hk2 : k < ls2.length := by rw [← hl2]; exact hk
    exact ⟨_, hown2 k _ _ (List.getElem?_eq_getElem hk) (List.getElem?_eq_getElem hk2)⟩
  obtain ⟨v', w', hrun, h1, h2, _, h4⟩ := run_append_own_at (P := Tryd.prog) w B 30 o.type 22 i0 _ 1 24 Tryd.underlying30 hi hz0 hz1 hz2 rfl (by decide) v us.length _ hr.1 ad us2.length c us2 (by simp)
    hcells (by intro u hu; obtain ⟨l, hl⟩ := hmem2 u hu; obtain ⟨A, c, rfl, _⟩ := hl.slice; rfl) (by unfold maxLen; omega) (by omega) hB
  have hat : ∀ k, v'.ownBlock = some k → v.ownBlock = some k ∨ w.heap.size ≤ k := fun k hk => by
    rcases h4 with e | e
    · left; rw [← e]; exact hk
    · right; rw [e] at hk; cases hk; exact Nat.le_refl _
  have hkeep : ∀ (u : Value) (m : List Int), Own w B u m → Apart u v → Own w' B u m := fun u m hu ha => hu.kept h2 ha
  unfold Oper.wp execOp
  simp only [ho, resolve, invoke, builtin, Sem.run_bind, Sem.run_pure, Result.andThen_ok, List.map_toArray, List.map_cons, List.map_nil, hs, hx, hrun]
  refine h v' w' ⟨?_, by simp [hr.2.1, hl2], ?_, ?_, ?_⟩ h2 ?_ hat
  · rw [List.length_append]; exact h1
  · intro k u l hu hl
    by_cases hk : k < us.length
    · rw [List.getElem?_append_left hk] at hu
      rw [List.getElem?_append_left (by rw [← hr.2.1]; exact hk)] at hl
      exact hkeep _ _ (hr.2.2.1 k u l hu hl) (hr.2.2.2.1 u (List.mem_of_getElem? hu))
    · rw [List.getElem?_append_right (by omega)] at hu
      rw [List.getElem?_append_right (by rw [← hr.2.1]; omega), ← hr.2.1] at hl
      exact hkeep _ _ (hown2 _ u l hu hl) (hav u (List.mem_of_getElem? hu))
  · intro u hu
    rcases List.mem_append.1 hu with hu | hu
    · obtain ⟨m, hm⟩ := hr.mem hu
      exact (hr.2.2.2.1 u hu).later (fun k hk => (hm.lt k hk).2) hat
    · obtain ⟨l, hl⟩ := hmem2 u hu
      exact (hav u hu).later (fun k hk => (hl.lt k hk).2) hat
  · rw [List.pairwise_append]
    exact ⟨hr.2.2.2.2, hpw, hau⟩
  · exact (Below.refl _ _).grown h2 hB fun k hk => (hr.1.lt k hk).1
/-- append(out, xs...): xs slices that have just been made. -/
theorem op_appendS {o : Oper} {a : Act} {K : Act → World → Prop} {Q : Exit → Act → World → Prop} {wr w3 : World} (s x : Operand)
    (ho : o.op = .call { callee := .builtin .append, args := #[s, x], argTypes := #[30, 30] })
    {B m c : Nat} {v : Value} {us us2 : List Value} {ls ls2 : List (List Int)} {ad : Addr} (hs : a.eval s = v) (hx : a.eval x = .slice (some ad) m c)
    (hr : Lss wr B v us ls) (hext : Ext wr w3) (hm : m = us2.length) (hl2 : us2.length = ls2.length)
    (hcells : ∀ (j : Nat) (u : Value), us2[j]? = some u → w3.cell? (ad.add j) = some u) (hown2 : ∀ (k : Nat) (u : Value) (l : List Int), us2[k]? = some u → ls2[k]? = some l → Own w3 wr.heap.size u l) (hpw : us2.Pairwise Apart)
    (hlen : us.length + us2.length ≤ 1000000000) (hB : B ≤ wr.heap.size)
    (h : ∀ v' w', Lss w' B v' (us ++ us2) (ls ++ ls2) → Below B wr w' → K (a.put o.dst v') w') : o.wp Tryd.prog a w3 K Q := by
  have hmem2 : ∀ u ∈ us2, ∃ l, Own w3 wr.heap.size u l := fun u hu => by
    obtain ⟨k, hk, rfl⟩ := List.getElem_of_mem hu
    have hk2 : k < ls2.length := by rw [← hl2]; exact hk
    exact ⟨_, hown2 k _ _ (List.getElem?_eq_getElem hk) (List.getElem?_eq_getElem hk2)⟩
  refine op_appendG s x ho hs hx (hr.ext hext) hm hl2 hcells (fun k u l hu hl => (hown2 k u l hu hl).base hB) hpw ?_ ?_ hlen (by have := hext.size; omega) fun v' w' h1 _ h2 _ => h v' w' h1 ((hext.mono hB).trans h2)
  · intro u hu
    obtain ⟨l, hl⟩ := hmem2 u hu
    exact Apart.baseL hl fun k hk => (hr.1.lt k hk).2
  · intro p hp q hq
    obtain ⟨l, hl⟩ := hmem2 q hq
    obtain ⟨m, hm⟩ := hr.mem hp
    exact Apart.symmL hl fun k hk => (hm.lt k hk).2
/-- append(out, l): l a slice that has just been made. -/
theorem wp_appendS1 {ops : Array Oper} {rest : List Oper} {o : Oper} {a : Act} {Q : Exit → Act → World → Prop} {wr w2 : World} {N : Nat} (hN : N = w2.heap.size) (hgd : o.guard = none) (s x : Operand)
    (ho : o.op = .call { callee := .builtin .append, args := #[s, x], argTypes := #[30, 30] })
    {B : Nat} {v v2 : Value} {us : List Value} {ls : List (List Int)} {l : List Int} (hs : a.eval s = v) (hx : a.eval x = .slice (some ⟨N, 0, none⟩) 1 1)
    (hr : Lss wr B v us ls) (hext : Ext wr w2) (ho2 : Own w2 wr.heap.size v2 l) (hlen : us.length ≤ 999999) (hB : B ≤ wr.heap.size)
    (h : ∀ v' w', Lss w' B v' (us ++ [v2]) (ls ++ [l]) → Below B wr w' → wpList Tryd.prog ops Q rest (a.put o.dst v') w') :
    wpList Tryd.prog ops Q (o :: rest) a (w2.alloc (.cells #[v2] 22)) := by
  subst hN
  refine wpList_plain hgd fun _ hK => op_appendS (us2 := [v2]) (ls2 := [l]) s x ho hs hx hr (hext.tr ((Below.refl _ _).alloc (Nat.le_refl _) _)) rfl rfl ?_ ?_ (by simp) (by simp; omega) hB fun v' w' h1 h2 => hK _ _ (h v' w' h1 h2)
  · intro j u hj
    match j, hj with
    | 0, hj => simp at hj; subst hj; simp [Addr.add]
  · intro k u l' hu hl
    match k, hu, hl with
    | 0, hu, hl => simp at hu hl; subst hu; subst hl; exact ho2.alloc _
/-- What a call leaves that hands back a slice of slices. -/
def RLs (ls : List (List Int)) (w : World) (e : Ending) (w' : World) : Prop := ∃ v us, e = .returned v ∧ Lss w' w.heap.size v us ls ∧ Ext w w'
theorem takeL {α : Type} {l : List α} {k : Nat} {x : α} (hx : l[k]? = some x) : l.take (k + 1) = l.take k ++ [x] := by
  rw [List.take_add_one, hx]; rfl
end Go.Proofs.YtpnbcgnbkanebaaDoor
