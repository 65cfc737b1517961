/- Contracts: sumCounts, sum, tilesWith, IsTiling. -/
import Derived.Test.YtjkgioimefagoaaFsam
import Derived.Test.YtjkgioimefagoaaFof
namespace Go.Proofs.Ytjkgioimefagoaa
open Go.RowKit
/-- one more at place k -/
def bmp (a : List Int) (k : Nat) : List Int := a.set k (a.getD k 0 + 1)
/-- the counts of the sums, of p with r's elements -/
def scIn (n : Nat) (p : Int) (a r : List Int) : List Int := r.foldl (fun a q => bmp a ((p + q) % (n : Int)).toNat) a
def scL (n : Nat) (l r : List Int) : List Int := l.foldl (fun a p => scIn n p a r) (List.replicate n 0)
structure Few (n N : Nat) (a : List Int) : Prop where
  len : a.length = n
  le : ∀ (k : Nat) (x : Int), a[k]? = some x → 0 ≤ x ∧ x ≤ N
theorem Few.mono {n N M : Nat} {a : List Int} (h : Few n N a) (hm : N ≤ M) : Few n M a := ⟨h.1, fun k x hx => by have := h.2 k x hx; omega⟩
theorem Few.bmp {n N : Nat} {a : List Int} (h : Few n N a) (k : Nat) : Few n (N + 1) (bmp a k) := by
  refine ⟨by unfold Proofs.Ytjkgioimefagoaa.bmp; rw [List.length_set]; exact h.1, fun j x hx => ?_⟩
  unfold Proofs.Ytjkgioimefagoaa.bmp at hx
  rw [List.getElem?_set] at hx
  split at hx
  · split at hx
    · rename_i h1 h2
      injection hx with hx
      subst h1
      have hg : a[k]? = some (a.getD k 0) := by simp [List.getElem?_eq_getElem h2]
      have := h.2 _ _ hg
      omega
    · cases hx
  · have := h.2 _ _ hx; omega
theorem Few.inn {n : Nat} {p : Int} (r : List Int) : ∀ {N : Nat} {a : List Int}, Few n N a → Few n (N + r.length) (scIn n p a r) := by
  induction r with
  | nil => intro N a h; exact h
  | cons q r ih =>
    intro N a h
    have := ih (h.bmp ((p + q) % (n : Int)).toNat)
    rw [List.length_cons, show N + (r.length + 1) = N + 1 + r.length by omega]
    exact this
theorem few_sc {n : Nat} (r : List Int) : ∀ (l : List Int) {N : Nat} {a : List Int}, Few n N a → Few n (N + l.length * r.length) (l.foldl (fun a p => scIn n p a r) a) := by
  intro l
  induction l with
  | nil => intro N a h; simpa using h
  | cons p l ih =>
    intro N a h
    have := ih (h.inn (p := p) r)
    rw [List.length_cons, show N + (l.length + 1) * r.length = N + r.length + l.length * r.length by rw [Nat.add_mul]; omega]
    exact this
theorem few_scL (n : Nat) (l r : List Int) (h1 : l.length ≤ 24) (h2 : r.length ≤ 24) : Few n 576 (scL n l r) := by
  have h0 : Few n 0 (List.replicate n (0 : Int)) := ⟨List.length_replicate, fun k x hx => by
    rw [List.getElem?_replicate] at hx
    split at hx
    · injection hx with hx; omega
    · cases hx⟩
  have h := few_sc r l h0
  have : l.length * r.length ≤ 24 * 24 := Nat.mul_le_mul h1 h2
  exact h.mono (by omega)
theorem scL_take {n : Nat} {l r : List Int} {k : Nat} {p : Int} (h : l[k]? = some p) : scL n (l.take (k + 1)) r = scIn n p (scL n (l.take k) r) r := by
  unfold scL; rw [take_succ h, List.foldl_append]; rfl
theorem scIn_take {n : Nat} {a r : List Int} {p : Int} {k : Nat} {q : Int} (h : r[k]? = some q) : scIn n p a (r.take (k + 1)) = bmp (scIn n p a (r.take k)) ((p + q) % (n : Int)).toNat := by
  unfold scIn; rw [take_succ h, List.foldl_append]; rfl
/-- the pulses that have a count -/
def posL (n : Nat) (a : List Int) : List Int := (rng n).filter fun p => decide (0 < a.getD p.toNat 0)
theorem posL_t {k : Nat} {a : List Int} (h : 0 < a.getD k 0) : posL (k + 1) a = posL k a ++ [(k : Int)] := by
  unfold posL; rw [rng_succ, List.filter_append]; simpa [List.filter_cons] using h
theorem posL_f {k : Nat} {a : List Int} (h : ¬ 0 < a.getD k 0) : posL (k + 1) a = posL k a := by
  unfold posL; rw [rng_succ, List.filter_append]; simp [List.filter_cons]; simpa using h
theorem posL_len (k : Nat) (a : List Int) : (posL k a).length ≤ k := by
  unfold posL; exact Nat.le_trans (List.length_filter_le _ _) (Nat.le_of_eq (rng_len k))
structure SF (w wr : World) (n : Int) (u v1 : Value) (L a : List Int) : Prop where
  r0 : RVar wr (w.heap.size + 1 + 1) 0 (.slice none 0 0)
  r1 : RVar wr (w.heap.size + 1 + 1 + 1) n u
  ou : Own wr (w.heap.size + 1 + 1 + 1 + 1) u L
  ov : Own wr (w.heap.size + 1 + 1 + 1 + 1) v1 a
  ap : Apart v1 u
  ex : Ext w wr
theorem SF.app {w wr w' : World} {n : Int} {u u' v1 : Value} {L L' a : List Int} (h : SF w wr n u v1 L a) (ho : Own w' (w.heap.size + 1 + 1 + 1 + 1) u' L') (hg : wr.grownBy w' u.ownBlock)
    (hat : ∀ k, u'.ownBlock = some k → u.ownBlock = some k ∨ wr.heap.size ≤ k) : SF w (w'.setCell ⟨w.heap.size + 1 + 1 + 1, 1, none⟩ u') n u' v1 L' a := by
  refine ⟨(h.r0.kept hg (h.ou.ne_lt (by omega))).other (by omega), (h.r1.kept hg (h.ou.ne_lt (by omega))).set1, ho.other (by omega), (h.ov.kept hg h.ap).other (by omega), h.ap.later (fun k hk => (h.ov.lt k hk).2) hat, (h.ex.mark h.ou hg (by omega)).setCell (by show w.heap.size ≤ w.heap.size + 1 + 1 + 1; omega) _⟩
theorem SF.fin {w wr : World} {n : Int} {u v1 : Value} {L a : List Int} (h : SF w wr n u v1 L a) :
    RVar ((wr.setCell ⟨w.heap.size + 1 + 1, 0, none⟩ (.int .i64 n)).setCell ⟨w.heap.size + 1 + 1, 1, none⟩ u) (w.heap.size + 1 + 1) n u ∧ Own ((wr.setCell ⟨w.heap.size + 1 + 1, 0, none⟩ (.int .i64 n)).setCell ⟨w.heap.size + 1 + 1, 1, none⟩ u) w.heap.size u L ∧ Ext w ((wr.setCell ⟨w.heap.size + 1 + 1, 0, none⟩ (.int .i64 n)).setCell ⟨w.heap.size + 1 + 1, 1, none⟩ u) := by
  refine ⟨h.r0.set0.set1, ((h.ou.other (by omega)).other (by omega)).base (by omega), (h.ex.setCell (by show w.heap.size ≤ w.heap.size + 1 + 1; omega) _).setCell (by show w.heap.size ≤ w.heap.size + 1 + 1; omega) _⟩
theorem Apart.nil (v : Value) : Apart v (.slice none 0 0) := by
  unfold Apart
  cases h : v.ownBlock with
  | none => exact .inl rfl
  | some g => exact .inr (by simp [Value.ownBlock])
/-- two rhythms that tile -/
structure TilOk (n : Nat) (l r : List Int) : Prop where
  okl : RhyOk n l
  okr : RhyOk n r
  mul : l.length * r.length = n
  full : (posL n (scL n l r)).length = n
end Go.Proofs.Ytjkgioimefagoaa
