/- Words for the covers' closure: a list that is appended to and given back; the captured variables; the covers that have been collected. -/
import Derived.Test.YtpnbcgnbkanebaaDoorLss
import Derived.Test.YtpnbcgnbkanebaaDoorBlk
import Derived.Test.YtpnbcgnbkanebaaDoorPureV
import Derived.Shelf.Spec.TrailingZeros
namespace Go.Proofs.YtpnbcgnbkanebaaDoor
open Go.RowKit
theorem Own.lessOne {w : World} {B g n c : Nat} {l : List Int} {x : Int} (h : Own w B (.slice (some ⟨g, 0, none⟩) (n + 1) c) (l ++ [x])) (hn : n = l.length) : Own w B (.slice (some ⟨g, 0, none⟩) n c) l := by
  subst hn
  refine ⟨⟨by simp, ?_⟩, fun y hy => h.2 y (List.mem_append_left _ hy)⟩
  rcases h.1.2 with ⟨hv, _⟩ | ⟨g', cap, cur, hv, hB, hg, h1, h2, h3, h4⟩
  · simp at hv
  · simp only [Value.slice.injEq, Option.some.injEq, Addr.mk.injEq, and_true, true_and] at hv
    obtain ⟨rfl, _, rfl⟩ := hv
    refine .inr ⟨g, c, cur, rfl, hB, hg, ?_, h2, h3, ?_⟩
    · rw [List.length_append] at h1; simp at h1; omega
    · have := congrArg (List.take (l.length * 1)) h4
      rw [List.take_take] at this
      rw [show min (l.length * 1) ((l ++ [x]).length * 1) = l.length * 1 by rw [List.length_append]; simp] at this
      rw [this, List.map_append, List.take_left' (by simp)]
/-- append(list, n): the row grows in its block, or a new one is made; in either case the list can be read again. -/
theorem run_append1B {w : World} {B c : Nat} {v : Value} {l : List Int} {n : Int} {ad : Addr} (ty : TypeId) (hown : Own w B v l) (hcell : w.cell? ad = some (.int .i64 n)) (hn : I64 n) (hlen : l.length ≤ 1099511627776) (hB : B ≤ w.heap.size) :
    ∃ v' w', (Builtin.append_ #[22, 22] ty #[v, .slice (some ad) 1 c]).run Tryd.prog w = .ok v' w' ∧ Own w' B v' (l ++ [n]) ∧ w.grownBy w' v.ownBlock ∧
      ((∃ g c, v = .slice (some ⟨g, 0, none⟩) l.length c ∧ v' = .slice (some ⟨g, 0, none⟩) (l.length + 1) c) ∨ (v'.ownBlock = some w.heap.size ∧ Ext w w')) := by
  obtain ⟨i0, hi, hz0, hz1, hz2⟩ := info_parts Tryd.infoInt
  have hnews : ∀ (j : Nat) (u : Value), [Value.int .i64 n][j]? = some u → w.cell? (ad.add j) = some u := by
    intro j u hj
    match j, hj with
    | 0, hj => simp at hj; subst hj; simpa [Addr.add] using hcell
  have h1 : ∀ u ∈ [Value.int .i64 n], u.oneCell' = true := by intro u hu; simp at hu; subst hu; rfl
  have hr : ∀ y ∈ l ++ [n], I64 y := fun y hy => by
    rcases List.mem_append.1 hy with h' | h'
    · exact hown.2 y h'
    · simp at h'; rw [h']; exact hn
  obtain ⟨v', w', hrun, ho, hg, _, hat⟩ := run_append_own_at (P := Tryd.prog) w B 22 ty 3 i0 (.int .i64 0) 1 8 Tryd.underlying22 hi hz0 hz1 hz2 rfl (by decide) v l.length _ hown.1 ad 1 c [.int .i64 n] rfl hnews h1 (by unfold maxLen; omega) (by omega) hB
  refine ⟨v', w', hrun, ⟨by simpa using ho, hr⟩, hg, ?_⟩
  rcases hat with he | he
  · left
    rcases hown.1.2 with ⟨rfl, hn0⟩ | ⟨g, cap, cur, rfl, hBg, hgg, hnc, hcm, hcs, htk⟩
    · rcases ho.2 with ⟨_, h0⟩ | ⟨g', _, _, rfl, _⟩
      · omega
      · simp [Value.ownBlock] at he
    · by_cases hroom : l.length + 1 ≤ cap
      · obtain ⟨w2, hrun2, _⟩ := run_append_fits (P := Tryd.prog) w B 22 ty 3 i0 1 Tryd.underlying22 hi hz1 g l.length cap _ hown.1 ad 1 c [.int .i64 n] rfl hnews h1 hroom
        rw [hrun] at hrun2
        simp only [Result.ok.injEq] at hrun2
        exact ⟨g, cap, rfl, hrun2.1⟩
      · have hcl : cap = l.length := by omega
        rcases ho.2 with ⟨_, h0⟩ | ⟨g', cap', cur', rfl, _, hg', hn', _, hcs', _⟩
        · omega
        · have hgg2 : g' = g := by simpa [Value.ownBlock] using he
          subst hgg2
          have hfit := (run_append_grow (P := Tryd.prog) w 22 ty 3 i0 (.int .i64 0) Tryd.underlying22 hi hz0 ⟨g', 0, none⟩ l.length cap _ (by rw [hz1]; exact hown.1.1) (hown.1.cells (g := g') rfl) ad 1 c [.int .i64 n] (by rw [hz1]; rfl) hnews (by omega) (by omega) (growslice_fits (by omega) (by rw [hz2]; omega)))
          rw [hrun] at hfit
          simp only [Result.ok.injEq, Value.slice.injEq, Option.some.injEq, Addr.mk.injEq] at hfit
          have hlt := (Array.getElem?_eq_some_iff.1 hgg).1
          omega
  · refine .inr ⟨he, ?_⟩
    rcases hown.1.2 with ⟨rfl, hn0⟩ | ⟨g, cap, cur, rfl, hBg, hgg, hnc, hcm, hcs, htk⟩
    · exact ⟨hg.os, hg.tape, hg.output, hg.size, fun k hk => hg.block k hk (by simp [Value.ownBlock])⟩
    · by_cases hroom : l.length + 1 ≤ cap
      · obtain ⟨w2, hrun2, _⟩ := run_append_fits (P := Tryd.prog) w B 22 ty 3 i0 1 Tryd.underlying22 hi hz1 g l.length cap _ hown.1 ad 1 c [.int .i64 n] rfl hnews h1 hroom
        rw [hrun] at hrun2
        simp only [Result.ok.injEq] at hrun2
        rw [hrun2.1] at he
        have hlt := (Array.getElem?_eq_some_iff.1 hgg).1
        simp [Value.ownBlock] at he
        omega
      · have hfit := (run_append_grow (P := Tryd.prog) w 22 ty 3 i0 (.int .i64 0) Tryd.underlying22 hi hz0 ⟨g, 0, none⟩ l.length cap _ (by rw [hz1]; exact hown.1.1) (hown.1.cells (g := g) rfl) ad 1 c [.int .i64 n] (by rw [hz1]; rfl) hnews (by omega) (by omega) (growslice_fits (by omega) (by rw [hz2]; omega)))
        rw [hrun] at hfit
        simp only [Result.ok.injEq] at hfit
        rw [hfit.2]
        exact (Below.drew (Below.refl _ _)).alloc (Nat.le_refl _) _
theorem one_boxC (w : World) (o : Obj) : Ext w (w.alloc o) := (Below.refl _ _).alloc (Nat.le_refl _) _
theorem step_append1B {ops : Array Oper} {o : Oper} {a : Act} {K : Act → World → Prop} {Q : Exit → Act → World → Prop} {E : Prop} {w : World} (hgd : o.guard = none) (s x : Operand)
    (ho : o.op = .call { callee := .builtin .append, args := #[s, x], argTypes := #[22, 22] })
    {B c : Nat} {v : Value} {l : List Int} {n : Int} {ad : Addr} (hs : a.eval s = v) (hx : a.eval x = .slice (some ad) 1 c)
    (hown : Own w B v l) (hcell : w.cell? ad = some (.int .i64 n)) (hn : I64 n) (hlen : l.length ≤ 1099511627776) (hB : B ≤ w.heap.size)
    (h : ∀ v' w', Own w' B v' (l ++ [n]) → w.grownBy w' v.ownBlock → ((∃ g c, v = .slice (some ⟨g, 0, none⟩) l.length c ∧ v' = .slice (some ⟨g, 0, none⟩) (l.length + 1) c) ∨ (v'.ownBlock = some w.heap.size ∧ Ext w w')) → K (a.put o.dst v') w') :
    if Region.wanted o (yielded ops a.tmps) = true then Oper.wp Tryd.prog o a w K Q else E := by
  have hw : Region.wanted o (yielded ops a.tmps) = true := by simp [Region.wanted, hgd]
  rw [if_pos hw]
  obtain ⟨v', w', hrun, h1, h2, h3⟩ := run_append1B o.type hown hcell hn hlen hB (c := c)
  unfold Oper.wp execOp
  simp only [ho, resolve, invoke, builtin, Sem.run_bind, Sem.run_pure, Result.andThen_ok, List.map_toArray, List.map_cons, List.map_nil, hs, hx, hrun]
  exact h v' w' h1 h2 h3
theorem step_appendC {ops : Array Oper} {o : Oper} {a : Act} {K : Act → World → Prop} {Q : Exit → Act → World → Prop} {E : Prop} {wr w3 : World} {N : Nat} (hN : N = w3.heap.size) (hgd : o.guard = none) (s x : Operand)
    (ho : o.op = .call { callee := .builtin .append, args := #[s, x], argTypes := #[30, 30] })
    {B : Nat} {v v3 : Value} {us : List Value} {ls : List (List Int)} {l : List Int} (hs : a.eval s = v) (hx : a.eval x = .slice (some ⟨N, 0, none⟩) 1 1)
    (hr : Lss wr B v us ls) (hext : Ext wr w3) (ho3 : Own w3 wr.heap.size v3 l) (hlen : us.length ≤ 999999999) (hB : B ≤ wr.heap.size)
    (h : ∀ v' w', Lss w' B v' (us ++ [v3]) (ls ++ [l]) → (w3.alloc (.cells #[v3] 22)).grownBy w' v.ownBlock → (∀ k, v'.ownBlock = some k → v.ownBlock = some k ∨ w3.heap.size ≤ k) → K (a.put o.dst v') w') :
    if Region.wanted o (yielded ops a.tmps) = true then Oper.wp Tryd.prog o a (w3.alloc (.cells #[v3] 22)) K Q else E := by
  have hw : Region.wanted o (yielded ops a.tmps) = true := by simp [Region.wanted, hgd]
  rw [if_pos hw]
  subst hN
  have hx3 := one_boxC w3 (.cells #[v3] 22)
  refine op_appendG (us2 := [v3]) (ls2 := [l]) s x ho hs hx (hr.ext (hext.tr hx3)) rfl rfl ?_ ?_ (by simp) ?_ ?_ (by simp; omega) (by have := (hext.tr hx3).size; omega) fun v' w' h1 h2 _ h3 => h v' w' h1 h2 fun k hk => ?_
  · intro j u hj
    match j, hj with
    | 0, hj => simp at hj; subst hj; simp [Addr.add]
  · intro k u l' hu hl
    match k, hu, hl with
    | 0, hu, hl => simp at hu hl; subst hu; subst hl; exact (ho3.base hB).ext hx3
  · intro u hu
    simp at hu; subst hu
    exact Apart.baseL ho3 fun k hk => (hr.1.lt k hk).2
  · intro p hp q hq
    simp at hq; subst hq
    obtain ⟨m, hm⟩ := hr.mem hp
    exact Apart.symmL ho3 fun k hk => (hm.lt k hk).2
  · rcases h3 k hk with e | e
    · exact .inl e
    · right; simp at e; omega
theorem Lss.keptLowC {w w' : World} {B : Nat} {v : Value} {us : List Value} {ls : List (List Int)} {row : Option Nat} (h : Lss w B v us ls) (hg : w.grownBy w' row) (hrow : ∀ k, row = some k → k < B) : Lss w' B v us ls := by
  have ne : ∀ k, B ≤ k → some k ≠ row := fun k hk e => by have := hrow k e.symm; omega
  refine ⟨h.1.kept hg ?_, h.2.1, fun k u l hu hl => (h.2.2.1 k u l hu hl).kept hg ?_, h.2.2.2⟩
  · cases e : v.ownBlock with
    | none => exact .inl rfl
    | some k => exact .inr (ne k (h.1.lt k e).1)
  · cases e : u.ownBlock with
    | none => exact .inl rfl
    | some j => exact .inr (ne j ((h.2.2.1 k u l hu hl).lt j e).1)
/-- The out variable is block bo; it holds the row o; the lists in it are ls; all else that was there in w0 is as it was. -/
structure CSt (w0 w : World) (bo : Nat) (o : Value) (us : List Value) (ls : List (List Int)) : Prop where
  gr : w0.grownBy w (some bo)
  blk : Blk w bo 30 #[o]
  rows : Lss w w0.heap.size o us ls
/-- All blocks of w but bo, o's row and v's row are as they were. -/
structure FrC (w w' : World) (bo : Nat) (o v : Value) : Prop where
  os : w'.os = w.os
  tape : w'.tape = w.tape
  output : w'.output = w.output
  size : w.heap.size ≤ w'.heap.size
  block : ∀ k, k < w.heap.size → k ≠ bo → o.ownBlock ≠ some k → v.ownBlock ≠ some k → w'.heap[k]? = w.heap[k]?
theorem FrC.refl (w : World) (bo : Nat) (o v : Value) : FrC w w bo o v := ⟨rfl, rfl, rfl, Nat.le_refl _, fun _ _ _ _ _ => rfl⟩
/-- What the closure leaves: the covers that go on from a list, collected behind those that were there; the list can be read again. -/
def CPost (w0 w : World) (bo : Nat) (v : Value) (l : List Int) (o : Value) (us : List Value) (ls new : List (List Int)) (w' : World) : Prop :=
  ∃ o' vs, CSt w0 w' bo o' (us ++ vs) (ls ++ new) ∧ Own w' w0.heap.size v l ∧ FrC w w' bo o v ∧ (∀ k, o'.ownBlock = some k → o.ownBlock = some k ∨ w.heap.size ≤ k) ∧ ∀ u ∈ vs, ∀ k, u.ownBlock = some k → w.heap.size ≤ k
/-- the leaf: the list's clone has been appended, the row goes back into the variable -/
theorem leaf_fin {w0 wr w3 w' : World} {bo : Nat} {v v3 o o' : Value} {l : List Int} {us : List Value} {ls : List (List Int)} (hc : CSt w0 wr bo o us ls) (hv : Own wr w0.heap.size v l) (hvo : Apart v o) (hbo : bo < w0.heap.size)
    (hext : Ext wr w3) (ho3 : Own w3 wr.heap.size v3 l) (hl : Lss w' w0.heap.size o' (us ++ [v3]) (ls ++ [l])) (hg : (w3.alloc (.cells #[v3] 22)).grownBy w' o.ownBlock) (hat : ∀ k, o'.ownBlock = some k → o.ownBlock = some k ∨ w3.heap.size ≤ k) :
    w'.frozen? ⟨bo, 0, none⟩ = false ∧ (∃ u, w'.cell? ⟨bo, 0, none⟩ = some u) ∧ CPost w0 wr bo v l o us ls [l] (w'.setCell ⟨bo, 0, none⟩ o') := by
  have hx3 : Ext wr (w3.alloc (.cells #[v3] 22)) := hext.tr (one_boxC w3 _)
  have hob : o.ownBlock ≠ some bo := fun e => by have := (hc.rows.1.lt bo e).1; omega
  have hvb : v.ownBlock ≠ some bo := fun e => by have := (hv.lt bo e).1; omega
  have hb1 : Blk w' bo 30 #[o] := (hc.blk.ext hx3).grown hg hob
  have hbs : bo < wr.heap.size := hc.blk.lt
  have hs1 := hx3.size
  have hs2 := hg.size
  have hsz0 := hc.gr.size
  have hset : w'.grownBy (w'.setCell ⟨bo, 0, none⟩ o') (some bo) := grownBy_set w' bo 0 o'
  have hv' : Own w' w0.heap.size v l := (hv.ext hx3).kept hg hvo
  have hob' : o'.ownBlock ≠ some bo := fun e => by
    rcases hat bo e with e' | e'
    · exact hob e'
    · have := hext.size; omega
  refine ⟨hb1.frozen 0, ⟨_, hb1.cell 0⟩, o', [v3], ⟨?_, hb1.set_ 0 o', ?_⟩, hv'.kept hset (.inr hvb), ⟨?_, ?_, ?_, ?_, ?_⟩, ?_, ?_⟩
  · refine ⟨?_, ?_, ?_, ?_, fun k hk hne => ?_⟩
    · rw [show (w'.setCell ⟨bo, 0, none⟩ o').os = w'.os from rfl, hg.os, hx3.os, hc.gr.os]
    · rw [show (w'.setCell ⟨bo, 0, none⟩ o').tape = w'.tape from rfl, hg.tape, hx3.tape, hc.gr.tape]
    · rw [show (w'.setCell ⟨bo, 0, none⟩ o').output = w'.output from rfl, hg.output, hx3.output, hc.gr.output]
    · have := hset.size; omega
    · have h1 : o.ownBlock ≠ some k := fun e => by have := (hc.rows.1.lt k e).1; omega
      rw [hset.block k (by omega) hne, hg.block k (by omega) (fun e => h1 e.symm), hx3.block k (by omega), hc.gr.block k hk hne]
  · exact hl.keptLowC hset fun k hk => by cases hk; exact hbo
  · rw [show (w'.setCell ⟨bo, 0, none⟩ o').os = w'.os from rfl, hg.os, hx3.os]
  · rw [show (w'.setCell ⟨bo, 0, none⟩ o').tape = w'.tape from rfl, hg.tape, hx3.tape]
  · rw [show (w'.setCell ⟨bo, 0, none⟩ o').output = w'.output from rfl, hg.output, hx3.output]
  · have := hset.size; omega
  · intro k hk hne h1 h2
    rw [hset.block k (by omega) (fun e => hne (by cases e; rfl)), hg.block k (by omega) (fun e => h1 e.symm), hx3.block k (by omega)]
  · intro k hk
    rcases hat k hk with e | e
    · exact .inl e
    · right; have := hext.size; omega
  · intro u hu k hk
    simp at hu; subst hu
    exact (ho3.lt k hk).1
theorem Own.sameC {w w' : World} {B : Nat} {v : Value} {l : List Int} (h : Own w B v l) (hs : ∀ k, v.ownBlock = some k → w'.heap[k]? = w.heap[k]?) : Own w' B v l := by
  refine ⟨⟨h.1.1, ?_⟩, h.2⟩
  rcases h.1.2 with h1 | ⟨g, cap, cur, rfl, hB, hg, hr⟩
  · exact .inl h1
  · exact .inr ⟨g, cap, cur, rfl, hB, (hs g rfl).trans hg, hr⟩
theorem CSt.ext {w0 w w' : World} {bo : Nat} {o : Value} {us : List Value} {ls : List (List Int)} (h : CSt w0 w bo o us ls) (hx : Ext w w') : CSt w0 w' bo o us ls :=
  ⟨grownBy_tr h.gr (grownBy_of_ext hx _), h.blk.ext hx, h.rows.ext hx⟩
theorem CSt.grown {w0 w w' : World} {bo : Nat} {o v : Value} {us : List Value} {ls : List (List Int)} (h : CSt w0 w bo o us ls) (hg : w.grownBy w' v.ownBlock) (hv : ∀ k, v.ownBlock = some k → w0.heap.size ≤ k) (hbo : bo < w0.heap.size) (hvo : Apart v o) (huv : ∀ u ∈ us, Apart u v) : CSt w0 w' bo o us ls := by
  refine ⟨⟨?_, ?_, ?_, ?_, fun k hk hne => ?_⟩, h.blk.grown hg fun e => by have := hv bo e; omega, h.rows.1.kept hg ?_, h.rows.2.1, fun k u l hu hl => (h.rows.2.2.1 k u l hu hl).kept hg (huv u (List.mem_of_getElem? hu)), h.rows.2.2.2⟩
  · rw [hg.os, h.gr.os]
  · rw [hg.tape, h.gr.tape]
  · rw [hg.output, h.gr.output]
  · exact Nat.le_trans h.gr.size hg.size
  · rw [hg.block k (Nat.lt_of_lt_of_le hk h.gr.size) (fun e => by have := hv k e.symm; omega), h.gr.block k hk hne]
  · rcases hvo with e | e
    · rw [e]; cases h' : o.ownBlock <;> simp
    · exact .inr fun h' => e h'.symm
theorem CPost.ext {w0 w w1 w2 : World} {bo : Nat} {v o : Value} {l : List Int} {us : List Value} {ls new : List (List Int)} (h : CPost w0 w bo v l o us ls new w1) (hx : Ext w1 w2) : CPost w0 w bo v l o us ls new w2 := by
  obtain ⟨o1, vs, h1, h2, h3, h4, h5⟩ := h
  refine ⟨o1, vs, h1.ext hx, h2.ext hx, ⟨?_, ?_, ?_, ?_, fun k hk a b c => ?_⟩, h4, h5⟩
  · rw [hx.os, h3.os]
  · rw [hx.tape, h3.tape]
  · rw [hx.output, h3.output]
  · exact Nat.le_trans h3.size hx.size
  · rw [hx.block k (Nat.lt_of_lt_of_le hk h3.size), h3.block k hk a b c]
/-- the state behind append(list, code) -/
theorem round_pre {w0 w wr w3 w5 : World} {bo : Nat} {v v' o o1 : Value} {l : List Int} {us vs1 : List Value} {ls L1 : List (List Int)} (hbo : bo < w0.heap.size)
    (hv : Own w w0.heap.size v l) (hvo : Apart v o) (huv : ∀ u ∈ us, Apart u v)
    (h1 : CSt w0 wr bo o1 (us ++ vs1) (ls ++ L1)) (hat1 : ∀ k, o1.ownBlock = some k → o.ownBlock = some k ∨ w.heap.size ≤ k) (hvs1 : ∀ u ∈ vs1, ∀ k, u.ownBlock = some k → w.heap.size ≤ k)
    (hx3 : Ext wr w3) (hg5 : w3.grownBy w5 v.ownBlock) (hat5 : (∃ g c, v = .slice (some ⟨g, 0, none⟩) l.length c ∧ v' = .slice (some ⟨g, 0, none⟩) (l.length + 1) c) ∨ (v'.ownBlock = some w3.heap.size ∧ Ext w3 w5)) :
    CSt w0 w5 bo o1 (us ++ vs1) (ls ++ L1) ∧ Apart v' o1 ∧ (∀ u ∈ us ++ vs1, Apart u v') ∧ Apart v o1 := by
  have hvl : ∀ k, v.ownBlock = some k → w0.heap.size ≤ k ∧ k < w.heap.size := hv.lt
  have ha1 : Apart v o1 := hvo.later (fun k hk => (hvl k hk).2) hat1
  have ha2 : ∀ u ∈ us ++ vs1, Apart u v := fun u hu => by
    rcases List.mem_append.1 hu with h | h
    · exact huv u h
    · cases e : u.ownBlock with
      | none => exact .inl e
      | some k =>
        refine .inr fun e' => ?_
        have h2 := hvs1 u h k e
        have h3 := (hvl k (e'.symm.trans e)).2
        omega
  have h3 := h1.ext hx3
  refine ⟨h3.grown hg5 (fun k hk => (hvl k hk).1) hbo ha1 ha2, ?_, ?_, ha1⟩
  · rcases hat5 with ⟨g, c, rfl, rfl⟩ | ⟨hb, _⟩
    · exact ha1
    · refine .inr fun e => ?_
      rw [hb] at e
      have := (h3.rows.1.lt _ e.symm).2
      omega
  · intro u hu
    rcases hat5 with ⟨g, c, rfl, rfl⟩ | ⟨hb, _⟩
    · exact ha2 u hu
    · refine .inr fun e => ?_
      rw [hb] at e
      obtain ⟨m, hm⟩ := h3.rows.mem hu
      have := (hm.lt _ e).2
      omega
/-- one more kind is done -/
theorem round_fin {w0 w wr w3 w5 w6 : World} {bo : Nat} {v v' o o1 : Value} {l : List Int} {x : Int} {us vs1 : List Value} {ls L1 L2 : List (List Int)} (hbo : bo < w0.heap.size)
    (hv : Own w w0.heap.size v l) (ha1 : Apart v o1) (hv1 : Own wr w0.heap.size v l) (hfr1 : FrC w wr bo o v)
    (hat1 : ∀ k, o1.ownBlock = some k → o.ownBlock = some k ∨ w.heap.size ≤ k) (hvs1 : ∀ u ∈ vs1, ∀ k, u.ownBlock = some k → w.heap.size ≤ k)
    (hx3 : Ext wr w3) (hg5 : w3.grownBy w5 v.ownBlock) (hat5 : (∃ g c, v = .slice (some ⟨g, 0, none⟩) l.length c ∧ v' = .slice (some ⟨g, 0, none⟩) (l.length + 1) c) ∨ (v'.ownBlock = some w3.heap.size ∧ Ext w3 w5))
    (hp : CPost w0 w5 bo v' (l ++ [x]) o1 (us ++ vs1) (ls ++ L1) L2 w6) : CPost w0 w bo v l o us ls (L1 ++ L2) w6 := by
  obtain ⟨o2, vs2, hst2, hv2, hfr2, hat2, hvs2⟩ := hp
  have hvl : ∀ k, v.ownBlock = some k → w0.heap.size ≤ k ∧ k < w.heap.size := hv.lt
  have s1 := hfr1.size
  have s2 := hx3.size
  have s3 := hg5.size
  refine ⟨o2, vs1 ++ vs2, by rw [← List.append_assoc, ← List.append_assoc]; exact hst2, ?_, ⟨?_, ?_, ?_, ?_, fun k hk hne ho hvk => ?_⟩, fun k hk => ?_, fun u hu k hk => ?_⟩
  · rcases hat5 with ⟨g, c, rfl, rfl⟩ | ⟨hb, hx⟩
    · exact Own.lessOne hv2 rfl
    · refine Own.sameC ((hv1.ext hx3).ext hx) fun k hk => ?_
      have hk1 := hvl k hk
      refine hfr2.block k (by omega) (by omega) ?_ ?_
      · rcases ha1 with e | e
        · rw [e] at hk; cases hk
        · exact fun h => e (hk.trans h.symm)
      · rw [hb]; intro h; cases h; omega
  · rw [hfr2.os, hg5.os, hx3.os, hfr1.os]
  · rw [hfr2.tape, hg5.tape, hx3.tape, hfr1.tape]
  · rw [hfr2.output, hg5.output, hx3.output, hfr1.output]
  · have := hfr2.size; omega
  · have h1 : o1.ownBlock ≠ some k := fun e => by
      rcases hat1 k e with e' | e'
      · exact ho e'
      · omega
    have h2 : v'.ownBlock ≠ some k := fun e => by
      rcases hat5 with ⟨g, c, rfl, rfl⟩ | ⟨hb, _⟩
      · exact hvk e
      · rw [hb] at e; cases e; omega
    rw [hfr2.block k (by omega) hne h1 h2, hg5.block k (by omega) (fun e => hvk e.symm), hx3.block k (by omega), hfr1.block k hk hne ho hvk]
  · rcases hat2 k hk with e | e
    · exact hat1 k e
    · right; omega
  · rcases List.mem_append.1 hu with h | h
    · exact hvs1 u h k hk
    · have := hvs2 u h k hk; omega
end Go.Proofs.YtpnbcgnbkanebaaDoor
