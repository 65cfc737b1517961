/- Contracts of the laws' own helpers on slices of slices of ints: eqIntSS, markIntSS, heldIntSS. -/
import Derived.Test.YtjenhnmfbphbnaaDoorLss
import Derived.Test.YtjenhnmfbphbnaaDoorLaw
namespace Go.Proofs.YtjenhnmfbphbnaaDoor
open Go.RowKit
theorem Apart.rowL {v u : Value} (h : Apart v u) : u.ownBlock = none ∨ u.ownBlock ≠ v.ownBlock := by
  rcases h with h | h
  · rw [h]; cases u.ownBlock <;> simp
  · exact .inr fun e => h e.symm
theorem ownsRow_byL {w1 w2 : World} {base : Nat} {e : TypeId} {size : Nat} {v : Value} {n : Nat} {xs : List Value} (h : w1.ownsRow base e size v n xs) (hb : ∀ k, v.ownBlock = some k → w2.heap[k]? = w1.heap[k]?) : w2.ownsRow base e size v n xs := by
  refine ⟨h.1, ?_⟩
  rcases h.2 with hn | ⟨g, cap, cur, rfl, hB, hgg, rest⟩
  · exact .inl hn
  · refine .inr ⟨g, cap, cur, rfl, hB, ?_, rest⟩
    rw [hb g rfl]
    exact hgg
theorem Own.byL {w1 w2 : World} {B : Nat} {v : Value} {l : List Int} (h : Own w1 B v l) (hb : ∀ k, v.ownBlock = some k → w2.heap[k]? = w1.heap[k]?) : Own w2 B v l := ⟨ownsRow_byL h.1 hb, h.2⟩
/-- k is a block of this row or of one of its slices -/
def Lss.Has (v : Value) (us : List Value) (k : Nat) : Prop := v.ownBlock = some k ∨ ∃ u ∈ us, u.ownBlock = some k
theorem Lss.by {w1 w2 : World} {B : Nat} {v : Value} {us : List Value} {ls : List (List Int)} (h : Lss w1 B v us ls) (hb : ∀ k, Lss.Has v us k → w2.heap[k]? = w1.heap[k]?) : Lss w2 B v us ls :=
  ⟨ownsRow_byL h.1 fun k hk => hb k (.inl hk), h.2.1, fun k u l hu hl => (h.2.2.1 k u l hu hl).byL fun j hj => hb j (.inr ⟨u, List.mem_of_getElem? hu, hj⟩), h.2.2.2⟩
theorem Lss.lt {w : World} {B : Nat} {v : Value} {us : List Value} {ls : List (List Int)} (h : Lss w B v us ls) : ∀ k, Lss.Has v us k → B ≤ k ∧ k < w.heap.size := by
  rintro k (hk | ⟨p, hp, hk⟩)
  · exact h.1.lt k hk
  · obtain ⟨l, hl⟩ := h.mem hp
    exact hl.lt k hk
theorem Lss.keptB {w0 w1 w2 : World} {B0 B : Nat} {v : Value} {us : List Value} {ls ls0 : List (List Int)} (h : Lss w1 B v us ls) (h0 : Lss w0 B0 v us ls0) (hb : Below w0.heap.size w1 w2) : Lss w2 B v us ls := h.by fun k hk => hb.block k (h0.lt k hk).2
theorem Lss.keptLow {w w' : World} {B : Nat} {v : Value} {us : List Value} {ls : List (List Int)} {row : Option Nat} (h : Lss w B v us ls) (hg : w.grownBy w' row) (hrow : ∀ k, row = some k → k < B) : Lss w' B v us ls :=
  h.by fun k hk => hg.block k (h.lt k hk).2 fun e => by have := hrow k e.symm; have := (h.lt k hk).1; omega
theorem Lss.keptHigh {w0 w w' : World} {B B0 : Nat} {v : Value} {us : List Value} {ls ls0 : List (List Int)} {row : Option Nat} (h0 : Lss w0 B0 v us ls0) (h : Lss w B v us ls) (hg : w.grownBy w' row) (hrow : ∀ k, row = some k → w0.heap.size ≤ k) : Lss w' B v us ls :=
  h.by fun k hk => hg.block k (h.lt k hk).2 fun e => by have := hrow k e.symm; have := (h0.lt k hk).2; omega
theorem Ext.markS {w a b : World} {B : Nat} (h : Ext w a) (hb : Below B a b) (hB : w.heap.size ≤ B) : Ext w b := h.trans (hb.mono hB)
theorem Lss.elem {w : World} {B : Nat} {v : Value} {us : List Value} {ls : List (List Int)} (h : Lss w B v us ls) {k : Nat} (hk : k < us.length) :
    ∃ g c A m cc l, v = .slice (some ⟨g, 0, none⟩) us.length c ∧ us[k]? = some (.slice A m cc) ∧ ls[k]? = some l ∧ m = l.length ∧ w.cell? ⟨g, k, none⟩ = some (.slice A m cc) ∧ Own w B (.slice A m cc) l := by
  obtain ⟨g, c, hv, _⟩ := h.shape (by omega)
  subst hv
  have hp : us[k]? = some us[k] := List.getElem?_eq_getElem hk
  have hk2 : k < ls.length := by rw [← h.2.1]; exact hk
  have hr : ls[k]? = some ls[k] := List.getElem?_eq_getElem hk2
  have h2 := h.2.2.1 k _ _ hp hr
  have c1 := h.cell hp
  obtain ⟨A, m, cc, he⟩ : ∃ A m cc, us[k] = .slice A m cc := by obtain ⟨A, c, he, _⟩ := h2.slice; exact ⟨A, _, c, he⟩
  rw [he] at c1 h2 hp
  exact ⟨g, c, A, m, cc, ls[k], rfl, hp, hr, h2.n_eq, c1, h2⟩
theorem Ext.ofDL {w w' : World} (h : Ext w.drew w') : Ext w w' := ⟨h.os, h.tape, h.output, h.size, h.block⟩
/-- the marks of a slice of slices, from k on -/
def mkL (k : Nat) : List (List Int) → List (List Int)
  | [] => []
  | r :: t => marks k r.length :: mkL (k + r.length) t
def endL (k : Nat) : List (List Int) → Nat
  | [] => k
  | r :: t => endL (k + r.length) t
theorem mkL_len (k : Nat) (rs : List (List Int)) : (mkL k rs).length = rs.length := by
  induction rs generalizing k with
  | nil => rfl
  | cons r t ih => simp [mkL, ih]
theorem mkL_snoc (k : Nat) (rs : List (List Int)) (r : List Int) : mkL k (rs ++ [r]) = mkL k rs ++ [marks (endL k rs) r.length] := by
  induction rs generalizing k with
  | nil => rfl
  | cons r0 t ih => simp only [List.cons_append, mkL, endL, ih]
theorem endL_snoc (k : Nat) (rs : List (List Int)) (r : List Int) : endL k (rs ++ [r]) = endL k rs + r.length := by
  induction rs generalizing k with
  | nil => rfl
  | cons r0 t ih => simp only [List.cons_append, endL, ih]
theorem mkL_get {k j : Nat} {rs : List (List Int)} {r : List Int} (h : rs[j]? = some r) : (mkL k rs)[j]? = some (marks (endL k (rs.take j)) r.length) := by
  have hj := (List.getElem?_eq_some_iff.1 h).1
  have h1 : mkL k (rs.take (j + 1)) = mkL k (rs.take j) ++ [marks (endL k (rs.take j)) r.length] := by rw [takeL h, mkL_snoc]
  have h2 : ∀ (a b : List (List Int)) (k : Nat), ∃ c, mkL k (a ++ b) = mkL k a ++ c := by
    intro a
    induction a with
    | nil => intro b k; exact ⟨mkL k b, rfl⟩
    | cons x t ih => intro b k; obtain ⟨c, hc⟩ := ih b (k + x.length); exact ⟨c, by simp only [List.cons_append, mkL, hc]⟩
  obtain ⟨c, hc⟩ := h2 (rs.take (j + 1)) (rs.drop (j + 1)) k
  rw [List.take_append_drop] at hc
  rw [hc, h1]
  have hl : (mkL k (rs.take j)).length = j := by rw [mkL_len, List.length_take]; omega
  rw [List.append_assoc, List.getElem?_append_right (by omega), hl, Nat.sub_self]
  rfl
theorem Lss.markOne {w w' : World} {B j : Nat} {v : Value} {us : List Value} {rs : List (List Int)} {p : Value} {r l' : List Int} (h : Lss w B v us rs) (hp : us[j]? = some p) (hr : rs[j]? = some r) (ho : Own w' B p l') (hg : w.grownBy w' p.ownBlock) :
    Lss w' B v us (rs.set j l') := by
  have hap := h.2.2.2.1 p (List.mem_of_getElem? hp)
  obtain ⟨hj, hpj⟩ := List.getElem?_eq_some_iff.1 hp
  refine ⟨h.1.kept hg hap.rowL, by simp [h.2.1], ?_, h.2.2.2⟩
  intro i q s hq hs
  by_cases e : i = j
  · subst e
    rw [hp] at hq; cases hq
    rw [List.getElem?_set_self (by rw [← h.2.1]; exact hj)] at hs
    cases hs
    exact ho
  · rw [List.getElem?_set_ne (fun e' => e e'.symm)] at hs
    refine (h.2.2.1 i q s hq hs).kept hg ?_
    obtain ⟨hi, hqi⟩ := List.getElem?_eq_some_iff.1 hq
    have hpw := List.pairwise_iff_getElem.1 h.2.2.2.2
    rcases Nat.lt_or_ge i j with hlt | hge
    · have := hpw i j hi hj hlt
      rw [hqi, hpj] at this
      exact this
    · have := hpw j i hj hi (by omega)
      rw [hqi, hpj] at this
      exact this.rowL
theorem mkL_cur {k j : Nat} {rs : List (List Int)} (hj : j ≤ rs.length) : (mkL k (rs.take j) ++ rs.drop j)[j]? = rs[j]? := by
  have hl : (mkL k (rs.take j)).length = j := by rw [mkL_len, List.length_take]; omega
  rw [List.getElem?_append_right (by omega), hl, Nat.sub_self, List.getElem?_drop, Nat.add_zero]
theorem mkL_set {k j : Nat} {rs : List (List Int)} {r : List Int} (h : rs[j]? = some r) :
    (mkL k (rs.take j) ++ rs.drop j).set j (marks (endL k (rs.take j)) r.length) = mkL k (rs.take (j + 1)) ++ rs.drop (j + 1) := by
  have hj := (List.getElem?_eq_some_iff.1 h).1
  have hl : (mkL k (rs.take j)).length = j := by rw [mkL_len, List.length_take]; omega
  rw [List.set_append_right _ _ (by omega), hl, Nat.sub_self, List.drop_eq_getElem_cons hj, List.set_cons_zero, takeL h, mkL_snoc, List.append_assoc]
  rfl
set_option maxRecDepth 100000 in
set_option maxHeartbeats 1000000 in
theorem eqIntSS_c (rs rs' : List (List Int)) (us us' : List Value) (v v' : Value) (B B' : Nat) (w : World) (h : Lss w B v us rs) (h' : Lss w B' v' us' rs') (hlen : rs.length ≤ 1000000) : Calls Tryd.prog 24 #[v, v'] w (RB (rs = rs') w) := by
  obtain ⟨A, c, hv, hn, hm⟩ := h.form
  obtain ⟨A', c', hv', hn', hm'⟩ := h'.form
  have HR := Lib.hid h
  have HR' := Lib.hid h'
  obtain ⟨q, hq⟩ : ∃ q, q = us.length := ⟨_, rfl⟩
  obtain ⟨q', hq'⟩ : ∃ q, q = us'.length := ⟨_, rfl⟩
  rw [← hq] at hv hn
  rw [← hq'] at hv' hn'
  have hql : q = rs.length := by rw [hq, h.2.1]
  have hql' : q' = rs'.length := by rw [hq', h'.2.1]
  have hq6 : q ≤ 1000000 := by omega
  unfold maxLen at hm hm'
  have hq6' : q' ≤ 9223372036854775807 := by omega
  have Hq := Lib.hid hq
  have Hq' := Lib.hid hq'
  have Hql := Lib.hid hql
  have Hql' := Lib.hid hql'
  subst hv
  subst hv'
  clear h h' hq hq' hm hm' hql hql' hlen
  by_cases hqq : q = q'
  · subst hqq
    have hb : ((q : Int) != (q : Int)) = false := by simp
    go_enter Tryd.func24, Tryd.ntmps24
    go_wp2
    go_loopw [5] (fun i wr => ∃ j : Nat, j ≤ q ∧ i = .int .i64 j ∧ Hid (rs.take j = rs'.take j ∧ Ext w wr)) (fun i _ => q - (intOf i).toNat)
    case atStart => exact ⟨0, Nat.zero_le _, rfl, rfl, Below.refl _ _⟩
    case round =>
      obtain ⟨j, hj, rfl, hr⟩ := hrel
      by_cases hjq : j < q
      · obtain ⟨g, cc, A4, m4, c4, l4, he, _, hget, hm4, h2, ho4⟩ := (HR.out.ext hr.out.2).elem (k := j) (by rw [← Hq.out]; exact hjq)
        obtain ⟨rfl, rfl⟩ : A = some ⟨g, 0, none⟩ ∧ c = cc := by simp only [Value.slice.injEq] at he; exact ⟨he.1, he.2.2⟩
        obtain ⟨g', cc', A5, m5, c5, l5, he', _, hget', hm5, h4, ho5⟩ := (HR'.out.ext hr.out.2).elem (k := j) (by rw [← Hq'.out]; exact hjq)
        obtain ⟨rfl, rfl⟩ : A' = some ⟨g', 0, none⟩ ∧ c' = cc' := by simp only [Value.slice.injEq] at he'; exact ⟨he'.1, he'.2.2⟩
        have hjq2 : (j : Int) < (q : Int) := by omega
        have Hget := Lib.hid hget
        have Hget' := Lib.hid hget'
        have Ho4 := Lib.hid ho4
        have Ho5 := Lib.hid ho5
        have H2 := Lib.hid h2
        have H4 := Lib.hid h4
        clear hget hget' hm4 hm5 he he' ho4 ho5
        by_cases heq : l4 = l5
        · have Heq := Lib.hid heq
          have Hn : Hid (rs.take (j + 1) = rs'.take (j + 1)) := by unfold Hid; rw [takeL Hget.out, takeL Hget'.out, hr.out.1, heq]
          clear heq
          go_wp2
          first
            | (go_region_held3 (fun w' => w'.cell? ⟨g, j, none⟩ = some (.slice A4 m4 c4) ∧ w'.cell? ⟨g', j, none⟩ = some (.slice A5 m5 c5))
                (first
                  | with_reducible exact ⟨(Ext.ofDL hx2).cell_of H2.out, (Ext.ofDL hx2).cell_of H4.out⟩
                  | (go_keep; done)
                  | (refine ⟨?_, ?_⟩ <;> (go_keep; done)))
                (first
                  | (go_at_call 13; refine (eqIntS_c l4 l5 _ _ _ Ho4.out.drew.ints Ho5.out.drew.ints).mono ?_; rintro e w2 ⟨b2, rfl, hb2, hx2⟩; obtain rfl := hb2.2 Heq.out; clear hb2)))
            | fail
          all_goals
            go_wp2
            go_roundw
            case rel => exact ⟨j + 1, by omega, by go_num, Hn.out, hr.out.2.tr (Ext.ofDL hx2)⟩
            case measure => simp [intOf]; omega
        · have Heq := Lib.hid heq
          have Hf : Hid (¬ rs = rs') := fun e => heq (by have := Hget.out; rw [e, Hget'.out] at this; cases this; rfl)
          clear heq
          go_wp2
          first
            | (go_region_held3 (fun w' => w'.cell? ⟨g, j, none⟩ = some (.slice A4 m4 c4) ∧ w'.cell? ⟨g', j, none⟩ = some (.slice A5 m5 c5))
                (first
                  | with_reducible exact ⟨(Ext.ofDL hx2).cell_of H2.out, (Ext.ofDL hx2).cell_of H4.out⟩
                  | (go_keep; done)
                  | (refine ⟨?_, ?_⟩ <;> (go_keep; done)))
                (first
                  | (go_at_call 13; refine (eqIntS_c l4 l5 _ _ _ Ho4.out.drew.ints Ho5.out.drew.ints).mono ?_; rintro e w2 ⟨b2, rfl, hb2, hx2⟩; obtain rfl := bool_f hb2 Heq.out; clear hb2)))
            | fail
          all_goals
            go_wp2
            go_ret
            exact RB.f Hf.out (hr.out.2.tr (Ext.ofDL hx2))
      · obtain rfl : j = q := by omega
        go_wp2
        go_ret
        have h1 := hr.out.1
        rw [List.take_of_length_le (by rw [← Hql.out]; exact Nat.le_refl _), List.take_of_length_le (by rw [← Hql'.out]; exact Nat.le_refl _)] at h1
        exact RB.t h1 hr.out.2
  · have hb : ((q : Int) != (q' : Int)) = true := by rw [bne_iff_ne]; omega
    have Hf : Hid (¬ rs = rs') := fun e => hqq (by rw [Hql.out, Hql'.out, e])
    go_enter Tryd.func24, Tryd.ntmps24
    go_wp2
    go_ret
    exact RB.f Hf.out (Below.refl _ _)
def MarkPostL (rs : List (List Int)) (k B : Nat) (v : Value) (w : World) (e : Ending) (w' : World) : Prop :=
  ∃ (z : Nat) (us' : List Value), e = .returned (.int .i64 z) ∧ Hid (z = endL k rs) ∧ z ≤ 1099511627776 ∧ Lss w' B v us' (mkL k rs) ∧ Below B w w'
set_option maxRecDepth 100000 in
set_option maxHeartbeats 1000000 in
theorem markIntSS_c (rs : List (List Int)) (k : Nat) (us : List Value) (v : Value) (B : Nat) (w : World) (h : Lss w B v us rs) (hall : ∀ r ∈ rs, r.length ≤ 1000) (hlen : rs.length ≤ 1000000) (hk : k ≤ 1000000) :
    Calls Tryd.prog 25 #[v, .int .i64 k] w (MarkPostL rs k B v w) := by
  obtain ⟨A, c, hv, hn, hm⟩ := h.form
  have HR := Lib.hid h
  have Hall := Lib.hid hall
  obtain ⟨q, hq⟩ : ∃ q, q = us.length := ⟨_, rfl⟩
  rw [← hq] at hv hn
  have hql : q = rs.length := by rw [hq, h.2.1]
  have hq6 : q ≤ 1000000 := by omega
  have Hq := Lib.hid hq
  have Hql := Lib.hid hql
  subst hv
  clear h hq hm hql hlen hall
  go_enter Tryd.func25, Tryd.ntmps25
  go_wp2
  go_loopw [1, 5] (fun kk i wr => ∃ (j z : Nat), j ≤ q ∧ z ≤ k + j * 1000 ∧ i = .int .i64 j ∧ kk = .int .i64 z ∧ Hid (Lss wr B (.slice A q c) us (mkL k (rs.take j) ++ rs.drop j) ∧ z = endL k (rs.take j) ∧ Below B w wr)) (fun _ i _ => q - (intOf i).toNat)
  case atStart => exact ⟨0, k, Nat.zero_le _, by omega, rfl, rfl, HR.out, rfl, Below.refl _ _⟩
  case round =>
    obtain ⟨j, z, hj, hz, rfl, rfl, hr⟩ := hrel
    by_cases hjq : j < q
    · obtain ⟨g, cc, A4, m4, c4, l4, he, hp, hget, hm4, h2, ho4⟩ := hr.out.1.elem (k := j) (by rw [← Hq.out]; exact hjq)
      obtain ⟨rfl, rfl⟩ : A = some ⟨g, 0, none⟩ ∧ c = cc := by simp only [Value.slice.injEq] at he; exact ⟨he.1, he.2.2⟩
      have hjq2 : (j : Int) < (q : Int) := by omega
      have hrj : rs[j]? = some l4 := by rw [← mkL_cur (k := k) (by rw [← Hql.out]; omega)]; exact hget
      have hl4 : l4.length ≤ 1000 := Hall.out _ (List.mem_of_getElem? hrj)
      have Hl4 := Lib.hid hl4
      have hBs : B ≤ wr.heap.size := by have h3 := (hr.out.1.lt g (.inl rfl)); omega
      have Hp := Lib.hid hp
      have Hget := Lib.hid hget
      have Hrj := Lib.hid hrj
      have Ho4 := Lib.hid ho4
      have hz1 : z ≤ 1099511627776 := by
        have : j * 1000 ≤ 1000000 * 1000 := Nat.mul_le_mul_right _ (by omega)
        omega
      have Hset := Lib.hid (mkL_set (k := k) hrj)
      clear hrj hget hp hm4 he ho4 hl4
      go_wp2_with (first | (go_at_call 20; refine (markIntS_q l4 z _ _ Ho4.out hz1 (by have := Hl4.out; omega)).mono ?_; rintro e w2 ⟨z2, rfl, hz2, hz2l, ho2, hg2⟩))
      go_roundw
      case rel =>
        refine ⟨j + 1, z2, by omega, by have := Hl4.out; omega, by go_num, rfl, ?_, ?_, ?_⟩
        · have h9 := hr.out.1.markOne Hp.out Hget.out ho2 hg2
          rw [← Hset.out, ← hr.out.2.1]
          exact h9
        · rw [takeL Hrj.out, endL_snoc, ← hr.out.2.1]; exact hz2.out
        · exact hr.out.2.2.grown hg2 hBs fun k hk => (Ho4.out.lt k hk).1
      case measure => simp [intOf]; omega
    · obtain rfl : j = q := by omega
      go_wp2
      go_ret
      obtain ⟨h1, h3, h4⟩ := hr.out
      rw [List.take_of_length_le (by rw [← Hql.out]; exact Nat.le_refl _), List.drop_of_length_le (by rw [← Hql.out]; exact Nat.le_refl _), List.append_nil] at h1
      rw [List.take_of_length_le (by rw [← Hql.out]; exact Nat.le_refl _)] at h3
      exact ⟨z, us, rfl, h3, by have : j * 1000 ≤ 1000000 * 1000 := Nat.mul_le_mul_right _ (by omega); omega, h1, h4⟩
def HeldPostL (rs : List (List Int)) (k : Nat) (w : World) (e : Ending) (w' : World) : Prop := ∃ z : Nat, e = .returned (.int .i64 z) ∧ Hid (z = endL k rs) ∧ w = w'
set_option maxRecDepth 100000 in
set_option maxHeartbeats 1000000 in
theorem heldIntSS_c (rs : List (List Int)) (k : Nat) (us : List Value) (v : Value) (B : Nat) (w : World) (h : Lss w B v us (mkL k rs)) (hall : ∀ r ∈ rs, r.length ≤ 1000) (hlen : rs.length ≤ 1000000) (hk : k ≤ 1000000) :
    Calls Tryd.prog 26 #[v, .int .i64 k] w (HeldPostL rs k w) := by
  obtain ⟨A, c, hv, hn, hm⟩ := h.form
  have HR := Lib.hid h
  have Hall := Lib.hid hall
  obtain ⟨q, hq⟩ : ∃ q, q = us.length := ⟨_, rfl⟩
  rw [← hq] at hv hn
  have hql : q = rs.length := by rw [hq, h.2.1, mkL_len]
  have hq6 : q ≤ 1000000 := by omega
  have Hq := Lib.hid hq
  have Hql := Lib.hid hql
  subst hv
  clear h hq hm hql hlen hall
  go_enter Tryd.func26, Tryd.ntmps26
  go_wp2
  go_loop [1, 5] (fun kk i => ∃ (j z : Nat), j ≤ q ∧ z ≤ k + j * 1000 ∧ i = .int .i64 j ∧ kk = .int .i64 z ∧ Hid (z = endL k (rs.take j))) (fun _ i => q - (intOf i).toNat)
  case atStart => exact ⟨0, k, Nat.zero_le _, by omega, rfl, rfl, rfl⟩
  case round =>
    obtain ⟨j, z, hj, hz, rfl, rfl, hr⟩ := hrel
    by_cases hjq : j < q
    · obtain ⟨r, hrj⟩ : ∃ r, rs[j]? = some r := ⟨_, List.getElem?_eq_getElem (by rw [← Hql.out]; exact hjq)⟩
      obtain ⟨g, cc, A4, m4, c4, l4, he, hp, hget, hm4, h2, ho4⟩ := HR.out.elem (k := j) (by rw [← Hq.out]; exact hjq)
      obtain ⟨rfl, rfl⟩ : A = some ⟨g, 0, none⟩ ∧ c = cc := by simp only [Value.slice.injEq] at he; exact ⟨he.1, he.2.2⟩
      rw [mkL_get hrj] at hget
      simp only [Option.some.injEq] at hget
      rw [← hr.out] at hget
      rw [← hget] at ho4
      have hjq2 : (j : Int) < (q : Int) := by omega
      have hl4 : r.length ≤ 1000 := Hall.out _ (List.mem_of_getElem? hrj)
      have hz1 : z ≤ 1099511627776 := by
        have : j * 1000 ≤ 1000000 * 1000 := Nat.mul_le_mul_right _ (by omega)
        omega
      have hz0 : (0 : Int) ≤ (z : Int) := by omega
      have Ho4 := Lib.hid ho4.ints
      have Hrj := Lib.hid hrj
      obtain ⟨nb, hnb⟩ : ∃ nb, nb = r.length := ⟨_, rfl⟩
      have hnb2 : nb ≤ 1000 := by rw [hnb]; exact hl4
      have Hnb := Lib.hid hnb
      rw [← hnb] at Ho4
      clear hrj hget hp hm4 he ho4 hl4 hnb
      go_wp2_with (first | (go_at_call 21; refine (heldIntS_q nb z _ _ Ho4.out hz1 (by omega)).mono ?_; rintro e w2 ⟨z2, rfl, hz2, hz2l, rfl⟩))
      go_round
      case rel =>
        refine ⟨j + 1, z2, by omega, by omega, by go_num, rfl, ?_⟩
        unfold Hid
        rw [takeL Hrj.out, endL_snoc, ← hr.out, ← Hnb.out]; exact hz2.out
      case measure => simp [intOf]; omega
    · obtain rfl : j = q := by omega
      go_wp2
      go_ret
      have h3 := hr.out
      rw [List.take_of_length_le (by rw [← Hql.out]; exact Nat.le_refl _)] at h3
      exact ⟨z, rfl, h3, rfl⟩
end Go.Proofs.YtjenhnmfbphbnaaDoor
