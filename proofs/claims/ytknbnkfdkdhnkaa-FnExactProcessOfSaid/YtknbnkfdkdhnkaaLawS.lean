/- Contracts of the laws' own helpers on slices of rhythms: eqRhythmS, markRhythmS, heldRhythmS. -/
import Derived.Test.YtknbnkfdkdhnkaaRhs
import Derived.Test.YtknbnkfdkdhnkaaLawR
namespace Go.Proofs.Ytknbnkfdkdhnkaa
open Go.RowKit
theorem Apart.row {v u : Value} (h : Apart v u) : u.ownBlock = none ∨ u.ownBlock ≠ v.ownBlock := by
  rcases h with h | h
  · rw [h]; cases u.ownBlock <;> simp
  · exact .inr fun e => h e.symm
theorem ownsRow_by {w1 w2 : World} {base : Nat} {e : TypeId} {size : Nat} {v : Value} {n : Nat} {xs : List Value} (h : w1.ownsRow base e size v n xs) (hb : ∀ k, v.ownBlock = some k → w2.heap[k]? = w1.heap[k]?) : w2.ownsRow base e size v n xs := by
  refine ⟨h.1, ?_⟩
  rcases h.2 with hn | ⟨g, cap, cur, rfl, hB, hgg, rest⟩
  · exact .inl hn
  · refine .inr ⟨g, cap, cur, rfl, hB, ?_, rest⟩
    rw [hb g rfl]
    exact hgg
theorem Own.by {w1 w2 : World} {B : Nat} {v : Value} {l : List Int} (h : Own w1 B v l) (hb : ∀ k, v.ownBlock = some k → w2.heap[k]? = w1.heap[k]?) : Own w2 B v l := ⟨ownsRow_by h.1 hb, h.2⟩
/-- k is a block of this row or of one of its rhythms -/
def Rhs.Has (v : Value) (us : List (Int × Value)) (k : Nat) : Prop := v.ownBlock = some k ∨ ∃ p ∈ us, p.2.ownBlock = some k
theorem Rhs.by {w1 w2 : World} {B : Nat} {v : Value} {us : List (Int × Value)} {rs : List (Int × List Int)} (h : Rhs w1 B v us rs) (hb : ∀ k, Rhs.Has v us k → w2.heap[k]? = w1.heap[k]?) : Rhs w2 B v us rs :=
  ⟨ownsRow_by h.1 fun k hk => hb k (.inl hk), h.2.1, fun k p r hp hr => ⟨(h.2.2.1 k p r hp hr).1, (h.2.2.1 k p r hp hr).2.by fun j hj => hb j (.inr ⟨p, List.mem_of_getElem? hp, hj⟩)⟩, h.2.2.2⟩
theorem Rhs.lt {w : World} {B : Nat} {v : Value} {us : List (Int × Value)} {rs : List (Int × List Int)} (h : Rhs w B v us rs) : ∀ k, Rhs.Has v us k → B ≤ k ∧ k < w.heap.size := by
  rintro k (hk | ⟨p, hp, hk⟩)
  · exact h.1.lt k hk
  · obtain ⟨l, hl⟩ := h.mem hp
    exact hl.lt k hk
theorem Own.keptB {w0 w1 w2 : World} {B0 B : Nat} {v : Value} {l l0 : List Int} (h : Own w1 B v l) (h0 : Own w0 B0 v l0) (hb : Below w0.heap.size w1 w2) : Own w2 B v l := h.by fun k hk => hb.block k (h0.lt k hk).2
theorem Rhs.keptB {w0 w1 w2 : World} {B0 B : Nat} {v : Value} {us : List (Int × Value)} {rs rs0 : List (Int × List Int)} (h : Rhs w1 B v us rs) (h0 : Rhs w0 B0 v us rs0) (hb : Below w0.heap.size w1 w2) : Rhs w2 B v us rs := h.by fun k hk => hb.block k (h0.lt k hk).2
theorem Rhs.keptLow {w w' : World} {B : Nat} {v : Value} {us : List (Int × Value)} {rs : List (Int × List Int)} {row : Option Nat} (h : Rhs w B v us rs) (hg : w.grownBy w' row) (hrow : ∀ k, row = some k → k < B) : Rhs w' B v us rs :=
  h.by fun k hk => hg.block k (h.lt k hk).2 fun e => by have := hrow k e.symm; have := (h.lt k hk).1; omega
theorem Rhs.keptHigh {w0 w w' : World} {B B0 : Nat} {v : Value} {us : List (Int × Value)} {rs rs0 : List (Int × List Int)} {row : Option Nat} (h0 : Rhs w0 B0 v us rs0) (h : Rhs w B v us rs) (hg : w.grownBy w' row) (hrow : ∀ k, row = some k → w0.heap.size ≤ k) : Rhs w' B v us rs :=
  h.by fun k hk => hg.block k (h.lt k hk).2 fun e => by have := hrow k e.symm; have := (h0.lt k hk).2; omega
theorem RVar.keptB {w1 w2 : World} {B b : Nat} {n : Int} {v : Value} (h : RVar w1 b n v) (hlt : b < B) (hb : Below B w1 w2) : RVar w2 b n v := by
  obtain ⟨T, h⟩ := h
  exact ⟨T, by rw [hb.block b hlt]; exact h⟩
theorem Ext.markS {w a b : World} {B : Nat} (h : Ext w a) (hb : Below B a b) (hB : w.heap.size ≤ B) : Ext w b := h.trans (hb.mono hB)
theorem rhs_elem {w : World} {B : Nat} {v : Value} {us : List (Int × Value)} {rs : List (Int × List Int)} (h : Rhs w B v us rs) {k : Nat} (hk : k < us.length) :
    ∃ g c n A m cc l, v = .slice (some ⟨g, 0, none⟩) us.length c ∧ us[k]? = some (n, .slice A m cc) ∧ rs[k]? = some (n, l) ∧ m = l.length ∧ w.cell? ⟨g, k * 2, none⟩ = some (.int .i64 n) ∧ w.cell? ⟨g, k * 2 + 1, none⟩ = some (.slice A m cc) ∧ Own w B (.slice A m cc) l := by
  obtain ⟨g, c, hv, _⟩ := h.shape (by omega)
  subst hv
  have hp : us[k]? = some us[k] := List.getElem?_eq_getElem hk
  have hk2 : k < rs.length := by rw [← h.2.1]; exact hk
  have hr : rs[k]? = some rs[k] := List.getElem?_eq_getElem hk2
  obtain ⟨h1, h2⟩ := h.2.2.1 k _ _ hp hr
  obtain ⟨c0, c1⟩ := h.cell hp
  obtain ⟨A, m, cc, he⟩ := h2.form
  rw [he] at c1 h2
  exact ⟨g, c, us[k].1, A, m, cc, rs[k].2, rfl, by rw [hp, ← he], by rw [hr, h1], h2.n_eq, c0, c1, h2⟩
/-- the marks of a slice of rhythms, from k on -/
def mkR (k : Nat) : List (Int × List Int) → List (Int × List Int)
  | [] => []
  | r :: t => ((k : Int), marks (k + 1) r.2.length) :: mkR (k + 1 + r.2.length) t
def endR (k : Nat) : List (Int × List Int) → Nat
  | [] => k
  | r :: t => endR (k + 1 + r.2.length) t
theorem mkR_len (k : Nat) (rs : List (Int × List Int)) : (mkR k rs).length = rs.length := by
  induction rs generalizing k with
  | nil => rfl
  | cons r t ih => simp [mkR, ih]
theorem mkR_snoc (k : Nat) (rs : List (Int × List Int)) (r : Int × List Int) : mkR k (rs ++ [r]) = mkR k rs ++ [(((endR k rs : Nat) : Int), marks (endR k rs + 1) r.2.length)] := by
  induction rs generalizing k with
  | nil => rfl
  | cons r0 t ih => simp only [List.cons_append, mkR, endR, ih]
theorem endR_snoc (k : Nat) (rs : List (Int × List Int)) (r : Int × List Int) : endR k (rs ++ [r]) = endR k rs + 1 + r.2.length := by
  induction rs generalizing k with
  | nil => rfl
  | cons r0 t ih => simp only [List.cons_append, endR, ih]
theorem endR_le (k : Nat) (rs : List (Int × List Int)) (h : ∀ r ∈ rs, r.2.length ≤ 1000) : endR k rs ≤ k + rs.length * 1001 := by
  induction rs generalizing k with
  | nil => simp [endR]
  | cons r t ih =>
    rw [endR]
    have h1 := ih (k + 1 + r.2.length) fun x hx => h x (List.mem_cons_of_mem _ hx)
    have h2 := h r (List.mem_cons_self ..)
    rw [List.length_cons]; omega
theorem mkR_get {k j : Nat} {rs : List (Int × List Int)} {r : Int × List Int} (h : rs[j]? = some r) : (mkR k rs)[j]? = some (((endR k (rs.take j) : Nat) : Int), marks (endR k (rs.take j) + 1) r.2.length) := by
  have hj := (List.getElem?_eq_some_iff.1 h).1
  have h1 : mkR k (rs.take (j + 1)) = mkR k (rs.take j) ++ [(((endR k (rs.take j) : Nat) : Int), marks (endR k (rs.take j) + 1) r.2.length)] := by rw [takeS h, mkR_snoc]
  have h2 : ∀ (a b : List (Int × List Int)) (k : Nat), ∃ c, mkR k (a ++ b) = mkR k a ++ c := by
    intro a
    induction a with
    | nil => intro b k; exact ⟨mkR k b, rfl⟩
    | cons x t ih => intro b k; obtain ⟨c, hc⟩ := ih b (k + 1 + x.2.length); exact ⟨c, by simp only [List.cons_append, mkR, hc]⟩
  obtain ⟨c, hc⟩ := h2 (rs.take (j + 1)) (rs.drop (j + 1)) k
  rw [List.take_append_drop] at hc
  rw [hc, h1]
  have hl : (mkR k (rs.take j)).length = j := by rw [mkR_len, List.length_take]; omega
  rw [List.append_assoc, List.getElem?_append_right (by omega), hl, Nat.sub_self]
  rfl
set_option maxRecDepth 100000 in
set_option maxHeartbeats 1000000 in
theorem eqRhythmS_c (rs rs' : List (Int × List Int)) (us us' : List (Int × Value)) (v v' : Value) (B B' : Nat) (w : World) (h : Rhs w B v us rs) (h' : Rhs w B' v' us' rs') (hlen : rs.length ≤ 1000000) : Calls Try.prog 45 #[v, v'] w (RB (rs = rs') w) := by
  obtain ⟨A, c, hv, hn, hm⟩ := h.form
  obtain ⟨A', c', hv', hn', hm'⟩ := h'.form
  have HR := Lib.hid h
  have HR' := Lib.hid h'
  obtain ⟨q, hq⟩ : ∃ q, q = us.length := ⟨_, rfl⟩
  obtain ⟨q', hq'⟩ : ∃ q, q = us'.length := ⟨_, rfl⟩
  rw [← hq] at hv hn
  rw [← hq'] at hv' hn'
  have hql : q = rs.length := by rw [hq, h.2.1]
  have hql' : q' = rs'.length := by rw [hq', h'.2.1]
  have hq6 : q ≤ 1000000 := by omega
  unfold maxLen at hm hm'
  have hq6' : q' ≤ 9223372036854775807 := by omega
  have Hq := Lib.hid hq
  have Hq' := Lib.hid hq'
  have Hql := Lib.hid hql
  have Hql' := Lib.hid hql'
  subst hv
  subst hv'
  clear h h' hq hq' hm hm' hql hql' hlen
  by_cases hqq : q = q'
  · subst hqq
    have hb : ((q : Int) != (q : Int)) = false := by simp
    go_enter Try.func45, Try.ntmps45
    go_wp2
    go_loopw [5] (fun i wr => ∃ j : Nat, j ≤ q ∧ i = .int .i64 j ∧ Hid (rs.take j = rs'.take j ∧ Ext w wr)) (fun i _ => q - (intOf i).toNat)
    case atStart => exact ⟨0, Nat.zero_le _, rfl, rfl, Below.refl _ _⟩
    case round =>
      obtain ⟨j, hj, rfl, hr⟩ := hrel
      by_cases hjq : j < q
      · obtain ⟨g, cc, n4, A4, m4, c4, l4, he, _, hget, hm4, h1, h2, ho4⟩ := rhs_elem (HR.out.ext hr.out.2) (k := j) (by rw [← Hq.out]; exact hjq)
        obtain ⟨rfl, rfl⟩ : A = some ⟨g, 0, none⟩ ∧ c = cc := by simp only [Value.slice.injEq] at he; exact ⟨he.1, he.2.2⟩
        obtain ⟨g', cc', n5, A5, m5, c5, l5, he', _, hget', hm5, h3, h4, ho5⟩ := rhs_elem (HR'.out.ext hr.out.2) (k := j) (by rw [← Hq'.out]; exact hjq)
        obtain ⟨rfl, rfl⟩ : A' = some ⟨g', 0, none⟩ ∧ c' = cc' := by simp only [Value.slice.injEq] at he'; exact ⟨he'.1, he'.2.2⟩
        have hjq2 : (j : Int) < (q : Int) := by omega
        have Hget := Lib.hid hget
        have Hget' := Lib.hid hget'
        have Ho4 := Lib.hid ho4
        have Ho5 := Lib.hid ho5
        have H1 := Lib.hid h1
        have H2 := Lib.hid h2
        have H3 := Lib.hid h3
        have H4 := Lib.hid h4
        clear hget hget' hm4 hm5 he he' ho4 ho5
        by_cases heq : n4 = n5 ∧ l4 = l5
        · have Heq := Lib.hid heq
          have Hn : Hid (rs.take (j + 1) = rs'.take (j + 1)) := by unfold Hid; rw [takeS Hget.out, takeS Hget'.out, hr.out.1, heq.1, heq.2]
          clear heq
          go_wp2
          first
            | (go_region_held3 (fun w' => w'.cell? ⟨g, j * 2, none⟩ = some (.int .i64 n4) ∧ w'.cell? ⟨g, j * 2 + 1, none⟩ = some (.slice A4 m4 c4) ∧ w'.cell? ⟨g', j * 2, none⟩ = some (.int .i64 n5) ∧ w'.cell? ⟨g', j * 2 + 1, none⟩ = some (.slice A5 m5 c5))
                (first
                  | with_reducible exact ⟨(Ext.ofD hx2).cell_of H1.out, (Ext.ofD hx2).cell_of H2.out, (Ext.ofD hx2).cell_of H3.out, (Ext.ofD hx2).cell_of H4.out⟩
                  | (go_keep; done)
                  | (refine ⟨?_, ?_, ?_, ?_⟩ <;> (go_keep; done)))
                (first
                  | (go_at_call 17; refine (eqRhythm_c n4 n5 l4 l5 _ _ _ Ho4.out.drew.ints Ho5.out.drew.ints).mono ?_; rintro e w2 ⟨b2, rfl, hb2, hx2⟩; obtain rfl := hb2.2 Heq.out; clear hb2)))
            | fail
          all_goals
            go_wp2
            go_roundw
            case rel => exact ⟨j + 1, by omega, by go_num, Hn.out, hr.out.2.tr (Ext.ofD hx2)⟩
            case measure => simp [intOf]; omega
        · have Heq := Lib.hid heq
          have Hf : Hid (¬ rs = rs') := fun e => heq (by have := Hget.out; rw [e, Hget'.out] at this; cases this; exact ⟨rfl, rfl⟩)
          clear heq
          go_wp2
          first
            | (go_region_held3 (fun w' => w'.cell? ⟨g, j * 2, none⟩ = some (.int .i64 n4) ∧ w'.cell? ⟨g, j * 2 + 1, none⟩ = some (.slice A4 m4 c4) ∧ w'.cell? ⟨g', j * 2, none⟩ = some (.int .i64 n5) ∧ w'.cell? ⟨g', j * 2 + 1, none⟩ = some (.slice A5 m5 c5))
                (first
                  | with_reducible exact ⟨(Ext.ofD hx2).cell_of H1.out, (Ext.ofD hx2).cell_of H2.out, (Ext.ofD hx2).cell_of H3.out, (Ext.ofD hx2).cell_of H4.out⟩
                  | (go_keep; done)
                  | (refine ⟨?_, ?_, ?_, ?_⟩ <;> (go_keep; done)))
                (first
                  | (go_at_call 17; refine (eqRhythm_c n4 n5 l4 l5 _ _ _ Ho4.out.drew.ints Ho5.out.drew.ints).mono ?_; rintro e w2 ⟨b2, rfl, hb2, hx2⟩; obtain rfl := bool_f hb2 Heq.out; clear hb2)))
            | fail
          all_goals
            go_wp2
            go_ret
            exact RB.f Hf.out (hr.out.2.tr (Ext.ofD hx2))
      · obtain rfl : j = q := by omega
        go_wp2
        go_ret
        have h1 := hr.out.1
        rw [List.take_of_length_le (by rw [← Hql.out]; exact Nat.le_refl _), List.take_of_length_le (by rw [← Hql'.out]; exact Nat.le_refl _)] at h1
        exact RB.t h1 hr.out.2
  · have hb : ((q : Int) != (q' : Int)) = true := by rw [bne_iff_ne]; omega
    have Hf : Hid (¬ rs = rs') := fun e => hqq (by rw [Hql.out, Hql'.out, e])
    go_enter Try.func45, Try.ntmps45
    go_wp2
    go_ret
    exact RB.f Hf.out (Below.refl _ _)
theorem pcs_set {us : List (Int × Value)} {j : Nat} {p : Int × Value} (k : Int) (hp : us[j]? = some p) : pcs (us.set j (k, p.2)) = (pcs us).set (j * 2) (.int .i64 k) := by
  induction us generalizing j with
  | nil => simp at hp
  | cons q t ih =>
    cases j with
    | zero => simp at hp; subst hp; simp [pcs]
    | succ j =>
      have h' : t[j]? = some p := by simpa using hp
      rw [show (j + 1) * 2 = j * 2 + 1 + 1 by omega]
      simp [pcs, ih h']
theorem snd_set {us : List (Int × Value)} {j : Nat} {p : Int × Value} (k : Int) (hp : us[j]? = some p) : (us.set j (k, p.2)).map Prod.snd = us.map Prod.snd := by
  apply List.ext_getElem?
  intro i
  rw [List.getElem?_map, List.getElem?_map, List.getElem?_set]
  split
  · rename_i e
    subst e
    split
    · rw [hp]; rfl
    · rename_i h; rw [List.getElem?_eq_none (by omega)]
  · rfl
theorem Rhs.setSize {w : World} {B g m c j : Nat} {us : List (Int × Value)} {rs : List (Int × List Int)} {p : Int × Value} {r : Int × List Int} (h : Rhs w B (.slice (some ⟨g, 0, none⟩) m c) us rs) (hp : us[j]? = some p) (hr : rs[j]? = some r) (k : Int) :
    Rhs (w.setCell ⟨g, j * 2, none⟩ (.int .i64 k)) B (.slice (some ⟨g, 0, none⟩) m c) (us.set j (k, p.2)) (rs.set j (k, r.2)) ∧ w.grownBy (w.setCell ⟨g, j * 2, none⟩ (.int .i64 k)) (some g) := by
  have hm : m = us.length := by
    obtain ⟨A, c', he, _⟩ := h.form
    simp only [Value.slice.injEq] at he
    exact he.2.1
  subst hm
  obtain ⟨h1, h2⟩ := h.1.stored (j * 2) (.int .i64 k)
  have hs := snd_set k hp
  refine ⟨⟨?_, by simp [h.2.1], ?_, ?_, ?_⟩, h2⟩
  · rw [pcs_set k hp, List.length_set]; exact h1
  · intro i q s hq hs'
    by_cases e : i = j
    · subst e
      have hi := (List.getElem?_eq_some_iff.1 hp).1
      rw [List.getElem?_set_self hi] at hq
      rw [List.getElem?_set_self (by rw [← h.2.1]; exact hi)] at hs'
      cases hq; cases hs'
      exact ⟨rfl, (h.2.2.1 i p r hp hr).2.kept h2 (h.2.2.2.1 p (List.mem_of_getElem? hp))⟩
    · rw [List.getElem?_set_ne (fun e' => e e'.symm)] at hq hs'
      exact ⟨(h.2.2.1 i q s hq hs').1, (h.2.2.1 i q s hq hs').2.kept h2 (h.2.2.2.1 q (List.mem_of_getElem? hq))⟩
  · intro q hq
    have : q.2 ∈ us.map Prod.snd := by rw [← hs]; exact List.mem_map_of_mem hq
    obtain ⟨q', hq', he⟩ := List.mem_map.1 this
    rw [← he]; exact h.2.2.2.1 q' hq'
  · have h3 : (us.map Prod.snd).Pairwise Apart := List.pairwise_map.2 h.2.2.2.2
    rw [← hs] at h3
    exact List.pairwise_map.1 h3
theorem Rhs.free {w : World} {B g m c : Nat} {us : List (Int × Value)} {rs : List (Int × List Int)} (h : Rhs w B (.slice (some ⟨g, 0, none⟩) m c) us rs) (k : Nat) : w.frozen? ⟨g, k, none⟩ = false := by
  have hm : m = us.length := by
    obtain ⟨A, c', he, _⟩ := h.form
    simp only [Value.slice.injEq] at he
    exact he.2.1
  subst hm
  exact h.1.frozenAt k
theorem Rhs.markBeats {w w' : World} {B j : Nat} {v : Value} {us : List (Int × Value)} {rs : List (Int × List Int)} {p : Int × Value} {r : Int × List Int} {l' : List Int} (h : Rhs w B v us rs) (hp : us[j]? = some p) (hr : rs[j]? = some r) (ho : Own w' B p.2 l') (hg : w.grownBy w' p.2.ownBlock) :
    Rhs w' B v us (rs.set j (r.1, l')) := by
  have hap := h.2.2.2.1 p (List.mem_of_getElem? hp)
  obtain ⟨hj, hpj⟩ := List.getElem?_eq_some_iff.1 hp
  refine ⟨h.1.kept hg hap.row, by simp [h.2.1], ?_, h.2.2.2⟩
  intro i q s hq hs
  by_cases e : i = j
  · subst e
    rw [hp] at hq; cases hq
    rw [List.getElem?_set_self (by rw [← h.2.1]; exact hj)] at hs
    cases hs
    exact ⟨(h.2.2.1 i p r hp hr).1, ho⟩
  · rw [List.getElem?_set_ne (fun e' => e e'.symm)] at hs
    refine ⟨(h.2.2.1 i q s hq hs).1, (h.2.2.1 i q s hq hs).2.kept hg ?_⟩
    obtain ⟨hi, hqi⟩ := List.getElem?_eq_some_iff.1 hq
    have hpw := List.pairwise_iff_getElem.1 h.2.2.2.2
    rcases Nat.lt_or_ge i j with hlt | hge
    · have := hpw i j hi hj hlt
      rw [hqi, hpj] at this
      exact this
    · have := hpw j i hj hi (by omega)
      rw [hqi, hpj] at this
      exact this.row
theorem mk_cur {k j : Nat} {rs : List (Int × List Int)} (hj : j ≤ rs.length) : (mkR k (rs.take j) ++ rs.drop j)[j]? = rs[j]? := by
  have hl : (mkR k (rs.take j)).length = j := by rw [mkR_len, List.length_take]; omega
  rw [List.getElem?_append_right (by omega), hl, Nat.sub_self, List.getElem?_drop, Nat.add_zero]
theorem mk_set {k j : Nat} {rs : List (Int × List Int)} {r : Int × List Int} (h : rs[j]? = some r) :
    (mkR k (rs.take j) ++ rs.drop j).set j (((endR k (rs.take j) : Nat) : Int), marks (endR k (rs.take j) + 1) r.2.length) = mkR k (rs.take (j + 1)) ++ rs.drop (j + 1) := by
  have hj := (List.getElem?_eq_some_iff.1 h).1
  have hl : (mkR k (rs.take j)).length = j := by rw [mkR_len, List.length_take]; omega
  rw [List.set_append_right _ _ (by omega), hl, Nat.sub_self, List.drop_eq_getElem_cons hj, List.set_cons_zero, takeS h, mkR_snoc, List.append_assoc]
  rfl
def MarkPostS (rs : List (Int × List Int)) (k B : Nat) (v : Value) (w : World) (e : Ending) (w' : World) : Prop :=
  ∃ (z : Nat) (us' : List (Int × Value)), e = .returned (.int .i64 z) ∧ Hid (z = endR k rs) ∧ z ≤ 1099511627776 ∧ Rhs w' B v us' (mkR k rs) ∧ Below B w w'
set_option maxRecDepth 100000 in
set_option maxHeartbeats 1000000 in
theorem markRhythmS_c (rs : List (Int × List Int)) (k : Nat) (us : List (Int × Value)) (v : Value) (B : Nat) (w : World) (h : Rhs w B v us rs) (hall : ∀ r ∈ rs, r.2.length ≤ 1000) (hlen : rs.length ≤ 1000000) (hk : k ≤ 1000000) :
    Calls Try.prog 46 #[v, .int .i64 k] w (MarkPostS rs k B v w) := by
  obtain ⟨A, c, hv, hn, hm⟩ := h.form
  have HR := Lib.hid h
  have Hall := Lib.hid hall
  obtain ⟨q, hq⟩ : ∃ q, q = us.length := ⟨_, rfl⟩
  rw [← hq] at hv hn
  have hql : q = rs.length := by rw [hq, h.2.1]
  have hq6 : q ≤ 1000000 := by omega
  have Hq := Lib.hid hq
  have Hql := Lib.hid hql
  subst hv
  clear h hq hm hql hlen hall
  go_enter Try.func46, Try.ntmps46
  go_wp2
  go_loopw [1, 5] (fun kk i wr => ∃ (j z : Nat) (us' : List (Int × Value)), j ≤ q ∧ z ≤ k + j * 1001 ∧ i = .int .i64 j ∧ kk = .int .i64 z ∧ Hid (Rhs wr B (.slice A q c) us' (mkR k (rs.take j) ++ rs.drop j) ∧ us'.length = q ∧ z = endR k (rs.take j) ∧ Below B w wr)) (fun _ i _ => q - (intOf i).toNat)
  case atStart => exact ⟨0, k, us, Nat.zero_le _, by omega, rfl, rfl, HR.out, Hq.out.symm, rfl, Below.refl _ _⟩
  case round =>
    obtain ⟨j, z, us', hj, hz, rfl, rfl, hr⟩ := hrel
    by_cases hjq : j < q
    · obtain ⟨g, cc, n4, A4, m4, c4, l4, he, hp, hget, hm4, h1, h2, ho4⟩ := rhs_elem hr.out.1 (k := j) (by rw [hr.out.2.1]; exact hjq)
      obtain ⟨rfl, rfl⟩ : A = some ⟨g, 0, none⟩ ∧ c = cc := by simp only [Value.slice.injEq] at he; exact ⟨he.1, he.2.2⟩
      have hjq2 : (j : Int) < (q : Int) := by omega
      have hrj : rs[j]? = some (n4, l4) := by rw [← mk_cur (k := k) (by rw [← Hql.out]; omega)]; exact hget
      have hl4 : l4.length ≤ 1000 := Hall.out _ (List.mem_of_getElem? hrj)
      have Hl4 := Lib.hid hl4
      obtain ⟨hs1, hs2⟩ := hr.out.1.setSize hp hget (z : Int)
      have hBg : B ≤ g := (hr.out.1.lt g (.inl rfl)).1
      have hf0 := hr.out.1.free (j * 2)
      have hBs : B ≤ wr.heap.size := by have := (hr.out.1.lt g (.inl rfl)).2; omega
      have hus : (us'.set j ((z : Int), Value.slice A4 m4 c4))[j]? = some ((z : Int), Value.slice A4 m4 c4) := List.getElem?_set_self (by rw [hr.out.2.1]; exact hjq)
      have hrs : ((mkR k (rs.take j) ++ rs.drop j).set j ((z : Int), l4))[j]? = some ((z : Int), l4) := List.getElem?_set_self (List.getElem?_eq_some_iff.1 hget).1
      have ho4' := (hs1.2.2.1 j _ _ hus hrs).2
      have hc1' := (hs1.cell hus).2
      have Hs1 := Lib.hid hs1
      have Hb1 : Hid (Below B w (wr.setCell ⟨g, j * 2, none⟩ (.int .i64 (z : Int)))) := hr.out.2.2.2.grown hs2 (by have := (hr.out.1.lt g (.inl rfl)).2; omega) fun k hk => by cases hk; exact hBg
      have Ho4' := Lib.hid ho4'
      have Hus := Lib.hid hus
      have Hrs := Lib.hid hrs
      have Hrj := Lib.hid hrj
      have hz1 : z + 1 ≤ 1099511627776 := by
        have : j * 1001 ≤ 1000000 * 1001 := Nat.mul_le_mul_right _ (by omega)
        omega
      have Hset := Lib.hid (mk_set (k := k) hrj)
      clear hs1 hs2 ho4' hus hrs hrj hget hp hm4 he ho4 hl4
      go_wp2_with (first | (go_at_call 23; refine (markIntS_q l4 (z + 1) _ _ Ho4'.out hz1 (by have := Hl4.out; omega)).mono ?_; rintro e w2 ⟨z2, rfl, hz2, hz2l, ho2, hg2⟩))
      go_roundw
      case rel =>
        refine ⟨j + 1, z2, us'.set j ((z : Int), Value.slice A4 m4 c4), by omega, by have := Hl4.out; omega, by go_num, rfl, ?_, by rw [List.length_set]; exact hr.out.2.1, ?_, ?_⟩
        · have h9 := Hs1.out.markBeats Hus.out Hrs.out ho2 hg2
          rw [List.set_set] at h9
          rw [← Hset.out, ← hr.out.2.2.1]
          exact h9
        · rw [takeS Hrj.out, endR_snoc, ← hr.out.2.2.1]; exact hz2.out
        · exact Hb1.out.grown hg2 (by simpa using hBs) fun k hk => (Ho4'.out.lt k hk).1
      case measure => simp [intOf]; omega
    · obtain rfl : j = q := by omega
      go_wp2
      go_ret
      obtain ⟨h1, h2, h3, h4⟩ := hr.out
      rw [List.take_of_length_le (by rw [← Hql.out]; exact Nat.le_refl _), List.drop_of_length_le (by rw [← Hql.out]; exact Nat.le_refl _), List.append_nil] at h1
      rw [List.take_of_length_le (by rw [← Hql.out]; exact Nat.le_refl _)] at h3
      exact ⟨z, us', rfl, h3, by have : j * 1001 ≤ 1000000 * 1001 := Nat.mul_le_mul_right _ (by omega); omega, h1, h4⟩
def HeldPostS (rs : List (Int × List Int)) (k : Nat) (w : World) (e : Ending) (w' : World) : Prop := ∃ z : Nat, e = .returned (.int .i64 z) ∧ Hid (z = endR k rs) ∧ w = w'
set_option maxRecDepth 100000 in
set_option maxHeartbeats 1000000 in
theorem heldRhythmS_c (rs : List (Int × List Int)) (k : Nat) (us : List (Int × Value)) (v : Value) (B : Nat) (w : World) (h : Rhs w B v us (mkR k rs)) (hall : ∀ r ∈ rs, r.2.length ≤ 1000) (hlen : rs.length ≤ 1000000) (hk : k ≤ 1000000) :
    Calls Try.prog 47 #[v, .int .i64 k] w (HeldPostS rs k w) := by
  obtain ⟨A, c, hv, hn, hm⟩ := h.form
  have HR := Lib.hid h
  have Hall := Lib.hid hall
  obtain ⟨q, hq⟩ : ∃ q, q = us.length := ⟨_, rfl⟩
  rw [← hq] at hv hn
  have hql : q = rs.length := by rw [hq, h.2.1, mkR_len]
  have hq6 : q ≤ 1000000 := by omega
  have Hq := Lib.hid hq
  have Hql := Lib.hid hql
  subst hv
  clear h hq hm hql hlen hall
  go_enter Try.func47, Try.ntmps47
  go_wp2
  go_loop [1, 5] (fun kk i => ∃ (j z : Nat), j ≤ q ∧ z ≤ k + j * 1001 ∧ i = .int .i64 j ∧ kk = .int .i64 z ∧ Hid (z = endR k (rs.take j))) (fun _ i => q - (intOf i).toNat)
  case atStart => exact ⟨0, k, Nat.zero_le _, by omega, rfl, rfl, rfl⟩
  case round =>
    obtain ⟨j, z, hj, hz, rfl, rfl, hr⟩ := hrel
    by_cases hjq : j < q
    · obtain ⟨r, hrj⟩ : ∃ r, rs[j]? = some r := ⟨_, List.getElem?_eq_getElem (by rw [← Hql.out]; exact hjq)⟩
      obtain ⟨g, cc, n4, A4, m4, c4, l4, he, hp, hget, hm4, h1, h2, ho4⟩ := rhs_elem HR.out (k := j) (by rw [← Hq.out]; exact hjq)
      obtain ⟨rfl, rfl⟩ : A = some ⟨g, 0, none⟩ ∧ c = cc := by simp only [Value.slice.injEq] at he; exact ⟨he.1, he.2.2⟩
      rw [mkR_get hrj] at hget
      simp only [Option.some.injEq, Prod.mk.injEq] at hget
      obtain ⟨e1, e2⟩ := hget
      rw [← hr.out] at e1 e2
      rw [← e1] at h1
      rw [← e2] at ho4
      have hjq2 : (j : Int) < (q : Int) := by omega
      have hl4 : r.2.length ≤ 1000 := Hall.out _ (List.mem_of_getElem? hrj)
      have hzb : ((z : Int) != (z : Int)) = false := by simp
      have hz1 : z + 1 ≤ 1099511627776 := by
        have : j * 1001 ≤ 1000000 * 1001 := Nat.mul_le_mul_right _ (by omega)
        omega
      have Ho4 := Lib.hid ho4.ints
      have Hl4 := Lib.hid hl4
      have Hrj := Lib.hid hrj
      obtain ⟨nb, hnb⟩ : ∃ nb, nb = r.2.length := ⟨_, rfl⟩
      have hnb2 : nb ≤ 1000 := by rw [hnb]; exact hl4
      have Hnb := Lib.hid hnb
      rw [← hnb] at Ho4
      clear hrj e1 e2 hp hm4 he ho4 hl4 hnb
      go_wp2_with (first | (go_at_call 24; refine (heldIntS_q nb (z + 1) _ _ Ho4.out hz1 (by omega)).mono ?_; rintro e w2 ⟨z2, rfl, hz2, hz2l, rfl⟩))
      go_round
      case rel =>
        refine ⟨j + 1, z2, by omega, by omega, by go_num, rfl, ?_⟩
        unfold Hid
        rw [takeS Hrj.out, endR_snoc, ← hr.out, ← Hnb.out]; exact hz2.out
      case measure => simp [intOf]; omega
    · obtain rfl : j = q := by omega
      go_wp2
      go_ret
      have h3 := hr.out
      rw [List.take_of_length_le (by rw [← Hql.out]; exact Nat.le_refl _)] at h3
      exact ⟨z, rfl, h3, rfl⟩
end Go.Proofs.Ytknbnkfdkdhnkaa
