/- Plain facts: what the first half of FnModulo asks of products and rests modulo two. -/
import Derived.Test.YtgjpepgjlocfkaaPureT
import Derived.Test.YtgjpepgjlocfkaaFdiv
import Derived.Test.YtgjpepgjlocfkaaFtwo
namespace Go.Proofs.Ytgjpepgjlocfkaa
theorem tt_nat {a b : Nat} (ha : a < 1048576) (hb : b < 1048576) : ttI a b = (ts a b 20 : Nat) := by unfold ttI; rw [if_pos (by omega)]; simp
theorem rest_nat {a b : Nat} (ha : a < 2199023255552) (hb : 1 ≤ b) (hb2 : b < 1048576) : restI a b = ((divTwo a b).2 : Nat) := by unfold restI; rw [if_pos (by omega)]; simp
/-- the ring's laws at a, b and c + 1 -/
theorem mod_ring {a b c : Nat} (ha : a < 2048) (hb : b < 256) (hc : c < 256) : ∃ X Y r : Nat, X < 9223372036854775808 ∧ Y < 9223372036854775808 ∧ ttI a ((c : Int) + 1) = X ∧ ttI b ((c : Int) + 1) = Y ∧ ttI ((a ^^^ b : Nat) : Int) ((c : Int) + 1) = ((X ^^^ Y : Nat) : Int) ∧ ttI ((c : Int) + 1) a = X ∧
    restI X ((c : Int) + 1) = 0 ∧ restI ((X ^^^ b : Nat) : Int) ((c : Int) + 1) = r ∧ restI b ((c : Int) + 1) = r ∧ maskI (listI a) = a := by
  have hab : a ^^^ b < 2048 := Nat.xor_lt_two_pow (n := 11) ha (by omega)
  have hX := ts_lt (a := a) (b := c + 1) (n := 20) (by omega) (Nat.le_refl _)
  have hY := ts_lt (a := b) (b := c + 1) (n := 20) (by omega) (Nat.le_refl _)
  have hXb : ts a (c + 1) 20 ^^^ b < 2 ^ 40 := Nat.xor_lt_two_pow hX (by omega)
  have e1 : ((c : Int) + 1) = ((c + 1 : Nat) : Int) := by omega
  have hcm : ts a (c + 1) 20 = ts (c + 1) a 20 := ts_comm (by omega) (by omega)
  refine ⟨ts a (c + 1) 20, ts b (c + 1) 20, (divTwo b (c + 1)).2, by omega, by omega, ?_, ?_, ?_, ?_, ?_, ?_, ?_, mask_list (by omega)⟩
  · rw [e1, tt_nat (by omega) (by omega)]
  · rw [e1, tt_nat (by omega) (by omega)]
  · rw [e1, tt_nat (by omega) (by omega), ts_xor_l]
  · rw [e1, tt_nat (by omega) (by omega), hcm]
  · rw [e1, rest_nat (by omega) (by omega) (by omega), hcm, rest_ts (by omega) (by omega) (by omega)]; rfl
  · rw [e1, rest_nat (by omega) (by omega) (by omega), rest_xor (by omega) (by omega) (by omega) (by omega), hcm, rest_ts (by omega) (by omega) (by omega), Nat.zero_xor]
  · rw [e1, rest_nat (by omega) (by omega) (by omega)]
theorem hitNN (l : List Int) : ∀ (es o : List Int), (∀ x ∈ o, 0 ≤ x) → ∀ x ∈ hitAll l es o, 0 ≤ x := by
  have hb : ∀ (o : List Int) (i : Nat), (∀ x ∈ o, 0 ≤ x) → ∀ x ∈ bump o i, 0 ≤ x := fun o i h x hx => by
    rcases List.mem_or_eq_of_mem_set hx with h' | h'
    · exact h x h'
    · by_cases hi : i < o.length
      · have := h _ (List.mem_of_getElem? (get_of_lt hi)); omega
      · have h2 := List.getElem?_eq_none (l := o) (i := i) (by omega)
        rw [show o.getD i 0 = 0 by simp [List.getD, h2]] at h'
        omega
  have hr : ∀ (l : List Int) (e : Int) (o : List Int), (∀ x ∈ o, 0 ≤ x) → ∀ x ∈ hitRow e l o, 0 ≤ x := by
    intro l
    induction l with
    | nil => intro e o h; exact h
    | cons y t ih => intro e o h; exact ih e _ (hb o _ h)
  intro es
  induction es with
  | nil => intro o h; exact h
  | cons e t ih => intro o h; exact ih _ (hr l e o h)
theorem hit_nn (l es : List Int) : ∀ x ∈ hitI l es, 0 ≤ x := by
  unfold hitI
  split
  · refine hitNN l es _ fun x hx => ?_
    unfold hit0 at hx
    rw [List.mem_replicate] at hx
    omega
  · intro x hx; simp at hx
theorem ordGo_le (b : Nat) : ∀ f n p, ordGo b f n p ≤ n + f := by
  intro f
  induction f with
  | zero => intro n p; exact Nat.zero_le _
  | succ f ih =>
    intro n p
    rw [ordGo]
    split
    · omega
    · have := ih (n + 1) (lf b p); omega
theorem ordI_le (l : List Int) : 0 ≤ ordI l ∧ ordI l ≤ 4096 := by
  unfold ordI
  split
  · split
    · omega
    · have := ordGo_le (maskN l) 4095 1 1; omega
  · omega
theorem ser_bits (l : List Int) (i : Nat) : 0 ≤ (serI l 60).getD i 0 ∧ (serI l 60).getD i 0 ≤ 1 := by
  unfold serI
  split
  · rcases Nat.lt_or_ge i (esI (ser l (60 : Int).toNat)).length with h | h
    · have hm := List.mem_of_getElem? (get_of_lt h)
      unfold esI at hm
      obtain ⟨n, hn, e⟩ := List.mem_map.1 hm
      have := ser_lt l _ n hn
      unfold esI
      omega
    · rw [show (esI (ser l (60 : Int).toNat)).getD i 0 = 0 by rw [List.getD, List.getElem?_eq_none h]; rfl]; omega
  · simp
def convP (l S : List Int) (i : Nat) : Int := convI l S i
theorem conv_zero (S : List Int) (i : Nat) : convI [] S i = 0 := rfl
theorem conv_take {l : List Int} (S : List Int) (i : Nat) {k : Nat} {x : Int} (h : l[k]? = some x) : convI (l.take (k + 1)) S i = convI (l.take k) S i + (if x ≤ (i : Int) then S.getD (i - x.toNat) 0 else 0) := by
  unfold convI
  rw [take_succ h, List.map_append, List.foldl_append]
  rfl
theorem conv_le (l S : List Int) (hS : ∀ i, 0 ≤ S.getD i 0 ∧ S.getD i 0 ≤ 1) (i : Nat) : 0 ≤ convI l S i ∧ convI l S i ≤ l.length := by
  unfold convI
  have h : ∀ (m : List Int) (a : Int), (∀ x ∈ m, 0 ≤ x ∧ x ≤ 1) → a ≤ m.foldl (· + ·) a ∧ m.foldl (· + ·) a ≤ a + m.length := by
    intro m
    induction m with
    | nil => intro a _; simp
    | cons y t ih =>
      intro a hy
      have h1 := hy y (by simp)
      have h2 := ih (a + y) fun x hx => hy x (by simp [hx])
      rw [List.foldl_cons, List.length_cons]
      omega
  have := h (l.map fun (e : Int) => if e ≤ (i : Int) then S.getD (i - e.toNat) 0 else 0) 0 (fun x hx => by
    obtain ⟨e, _, rfl⟩ := List.mem_map.1 hx
    split
    · exact hS _
    · omega)
  rw [List.length_map] at this
  omega
end Go.Proofs.Ytgjpepgjlocfkaa
