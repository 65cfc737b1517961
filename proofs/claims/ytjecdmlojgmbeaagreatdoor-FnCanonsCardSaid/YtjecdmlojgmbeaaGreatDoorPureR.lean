/- Plain facts on rhythms: ascending lists of pulses. -/
import Derived.Test.YtjecdmlojgmbeaaGreatDoorPure
namespace Go.Proofs.YtjecdmlojgmbeaaGreatDoor

/-- ascending -/
def Inc (l : List Int) : Prop := l.Pairwise (· < ·)
theorem Inc.nodup {l : List Int} (h : Inc l) : l.Nodup := List.Pairwise.imp (fun h => by omega) h
theorem inc_ext {l m : List Int} (hl : Inc l) (hm : Inc m) (h : ∀ x, x ∈ l ↔ x ∈ m) : l = m :=
  List.Perm.eq_of_pairwise (fun a b _ _ h1 h2 => absurd h1 (by omega)) hl hm ((List.perm_ext_iff_of_nodup hl.nodup hm.nodup).2 fun x => h x)
/-- 0, 1, .. -/
def rng (n : Nat) : List Int := (List.range n).map fun (i : Nat) => (i : Int)
theorem rng_len (n : Nat) : (rng n).length = n := by simp [rng]
theorem rng_succ (n : Nat) : rng (n + 1) = rng n ++ [(n : Int)] := by simp [rng, List.range_succ]
theorem rng_get {n k : Nat} (h : k < n) : (rng n)[k]? = some (k : Int) := by simp [rng, h]
theorem mem_rng {n : Nat} {x : Int} : x ∈ rng n ↔ 0 ≤ x ∧ x < n := by
  unfold rng
  rw [List.mem_map]
  constructor
  · rintro ⟨a, ha, rfl⟩; rw [List.mem_range] at ha; omega
  · intro h; exact ⟨x.toNat, by rw [List.mem_range]; omega, by omega⟩
theorem rng_inc (n : Nat) : Inc (rng n) := by
  unfold Inc rng
  rw [List.pairwise_map]
  exact List.pairwise_lt_range.imp fun h => by omega
/-- the pulses below n that lie in a list -/
def rhL (n : Nat) (l : List Int) : List Int := (rng n).filter fun p => decide (p ∈ l)
theorem rhL_inc (n : Nat) (l : List Int) : Inc (rhL n l) := (rng_inc n).filter _
theorem mem_rhL {n : Nat} {l : List Int} {x : Int} : x ∈ rhL n l ↔ (0 ≤ x ∧ x < n) ∧ x ∈ l := by
  unfold rhL; rw [List.mem_filter, mem_rng]; simp
theorem rhL_eq {n : Nat} {l : List Int} (hl : Inc l) (h : ∀ x ∈ l, 0 ≤ x ∧ x < n) : rhL n l = l :=
  inc_ext (rhL_inc _ _) hl fun x => by rw [mem_rhL]; exact ⟨fun h => h.2, fun h' => ⟨h x h', h'⟩⟩
theorem rhL_congr {n : Nat} {l m : List Int} (h : ∀ x : Int, 0 ≤ x → x < n → (x ∈ l ↔ x ∈ m)) : rhL n l = rhL n m :=
  inc_ext (rhL_inc _ _) (rhL_inc _ _) fun x => by
    rw [mem_rhL, mem_rhL]
    exact ⟨fun h' => ⟨h'.1, (h x h'.1.1 h'.1.2).1 h'.2⟩, fun h' => ⟨h'.1, (h x h'.1.1 h'.1.2).2 h'.2⟩⟩
theorem rhL_len (n : Nat) (l : List Int) : (rhL n l).length ≤ n := by
  have := List.length_filter_le (fun p => decide (p ∈ l)) (rng n)
  rw [rng_len] at this
  exact this
theorem rhL_take_t {k : Nat} {l : List Int} (h : (k : Int) ∈ l) : rhL (k + 1) l = rhL k l ++ [(k : Int)] := by
  unfold rhL; rw [rng_succ, List.filter_append]; simp [h]
theorem rhL_take_f {k : Nat} {l : List Int} (h : ¬ (k : Int) ∈ l) : rhL (k + 1) l = rhL k l := by
  unfold rhL; rw [rng_succ, List.filter_append]; simp [h]
theorem Inc.snoc {l : List Int} {x : Int} (h : Inc l) (hx : ∀ y ∈ l, y < x) : Inc (l ++ [x]) := by
  unfold Inc
  rw [List.pairwise_append]
  exact ⟨h, by simp, fun a ha b hb => by simp at hb; rw [hb]; exact hx a ha⟩
theorem inc_not_mem {l : List Int} {m : Nat} {x : Int} (h : Inc l) (hx : l[m]? = some x) : ¬ x ∈ l.take m := by
  intro hm
  obtain ⟨hml, rfl⟩ := List.getElem?_eq_some_iff.1 hx
  obtain ⟨i, hi, he⟩ := List.getElem_of_mem hm
  rw [List.length_take] at hi
  rw [List.getElem_take] at he
  have := (List.pairwise_iff_getElem.1 h) i m (by omega) hml (by omega)
  omega
theorem inc_snoc_last {m : List Int} {x y : Int} (h : Inc m) (hy : m[m.length - 1]? = some y) (hxy : y < x) : Inc (m ++ [x]) := by
  refine h.snoc fun z hz => ?_
  obtain ⟨i, hi, rfl⟩ := List.getElem_of_mem hz
  obtain ⟨hl, rfl⟩ := List.getElem?_eq_some_iff.1 hy
  by_cases e : i = m.length - 1
  · subst e; exact hxy
  · have := (List.pairwise_iff_getElem.1 h) i (m.length - 1) hi hl (by omega)
    omega
theorem inc_adj {l : List Int} {k : Nat} {x y : Int} (h : Inc l) (hk : 0 < k) (hx : l[k]? = some x) (hy : l[k - 1]? = some y) : y < x := by
  obtain ⟨h1, rfl⟩ := List.getElem?_eq_some_iff.1 hx
  obtain ⟨h2, rfl⟩ := List.getElem?_eq_some_iff.1 hy
  exact (List.pairwise_iff_getElem.1 h) (k - 1) k h2 h1 (by omega)
/-- the first k elements ascend and lie below n -/
def RPre (n : Int) (l : List Int) (k : Nat) : Prop := Inc (l.take k) ∧ ∀ x ∈ l.take k, 0 ≤ x ∧ x < n
theorem RPre.zero (n : Int) (l : List Int) : RPre n l 0 := ⟨by simp [Inc], fun x hx => by simp at hx⟩
theorem RPre.succ {n : Int} {l : List Int} {k : Nat} {x : Int} (h : RPre n l k) (hx : l[k]? = some x) (hr : 0 ≤ x ∧ x < n) (hy : ∀ y, 0 < k → l[k - 1]? = some y → y < x) : RPre n l (k + 1) := by
  have hk : k < l.length := (List.getElem?_eq_some_iff.1 hx).1
  unfold RPre
  rw [take_succ hx]
  refine ⟨?_, fun z hz => ?_⟩
  · by_cases h0 : k = 0
    · subst h0; simp [Inc]
    · have hl : (l.take k).length = k := by rw [List.length_take]; omega
      have hyk : l[k - 1]? = some l[k - 1] := List.getElem?_eq_getElem (by omega)
      exact inc_snoc_last h.1 (y := l[k - 1]) (by rw [hl, List.getElem?_take, if_pos (by omega)]; exact hyk) (hy _ (by omega) hyk)
  · rcases List.mem_append.1 hz with h' | h'
    · exact h.2 z h'
    · simp at h'; rw [h']; exact hr
theorem RPre.all {n : Int} {l : List Int} {k : Nat} (h : RPre n l k) (hk : l.length ≤ k) : Inc l ∧ ∀ x ∈ l, 0 ≤ x ∧ x < n := by
  unfold RPre at h
  rw [List.take_of_length_le hk] at h
  exact h
/-- an ascending list of pulses below n has no more than n of them -/
theorem inc_len {n : Nat} {l : List Int} (hl : Inc l) (h : ∀ x ∈ l, 0 ≤ x ∧ x < n) : l.length ≤ n := by
  rw [← rhL_eq hl h]; exact rhL_len n l
/-- a valid rhythm -/
def RhyOk (n : Int) (l : List Int) : Prop := (1 ≤ n ∧ n ≤ 24) ∧ Inc l ∧ ∀ x ∈ l, 0 ≤ x ∧ x < n
instance (n : Int) (l : List Int) : Decidable (RhyOk n l) := by unfold RhyOk Inc; infer_instance
theorem RhyOk.len {n : Int} {l : List Int} (h : RhyOk n l) : l.length ≤ 24 := by
  have := inc_len (n := n.toNat) h.2.1 (fun x hx => by have := h.2.2 x hx; have := h.1; omega)
  have := h.1
  omega
/-- k beats with equal steps on n pulses (rounded down) -/
def layL (k n : Nat) : List Int := (List.range k).map fun i => ((i * n / k : Nat) : Int)
theorem layL_len (k n : Nat) : (layL k n).length = k := by simp [layL]
/-- the first i of them -/
def layN (k n i : Nat) : List Int := (List.range i).map fun i => ((i * n / k : Nat) : Int)
theorem layN_len (k n i : Nat) : (layN k n i).length = i := by simp [layN]
theorem layN_eq' (k n : Nat) : layN k n k = layL k n := rfl
theorem layN_succ (k n i : Nat) : layN k n (i + 1) = layN k n i ++ [((i * n / k : Nat) : Int)] := by simp [layN, List.range_succ]
theorem layL_mem {k n : Nat} (hk : 1 ≤ k) {x : Int} (hx : x ∈ layL k n) (hn : 1 ≤ n) : 0 ≤ x ∧ x < n := by
  unfold layL at hx
  rw [List.mem_map] at hx
  obtain ⟨i, hi, rfl⟩ := hx
  rw [List.mem_range] at hi
  have : i * n / k < n := by
    rw [Nat.div_lt_iff_lt_mul (by omega), Nat.mul_comm n k]
    exact Nat.mul_lt_mul_of_pos_right hi (by omega)
  generalize i * n / k = z at *
  omega
theorem layL_div {k n : Nat} (hk : 1 ≤ k) (hd : n % k = 0) (i : Nat) : i * n / k = i * (n / k) := by
  have : n = k * (n / k) := by have := Nat.div_add_mod n k; omega
  rw [Nat.mul_div_assoc i (Nat.dvd_of_mod_eq_zero hd)]
theorem layL_inc {k n : Nat} (hk : 1 ≤ k) (hn : 1 ≤ n) (hd : n % k = 0) : Inc (layL k n) := by
  unfold Inc layL
  rw [List.pairwise_map]
  refine List.pairwise_lt_range.imp fun {a b} h => ?_
  have hq : 1 ≤ n / k := (Nat.one_le_div_iff (by omega)).2 (Nat.le_of_dvd (by omega) (Nat.dvd_of_mod_eq_zero hd))
  have e1 := layL_div hk hd a
  have e2 := layL_div hk hd b
  have : a * (n / k) < b * (n / k) := Nat.mul_lt_mul_of_pos_right h (by omega)
  omega
theorem layL_rh {k n : Nat} (hk : 1 ≤ k) (hn : 1 ≤ n) (hd : n % k = 0) : rhL n (layL k n) = layL k n := rhL_eq (layL_inc hk hn hd) fun _ hx => layL_mem hk hx hn
theorem mem_layL {k n : Nat} (hk : 1 ≤ k) (hn : 1 ≤ n) (hd : n % k = 0) {p : Nat} (hp : p < n) : (p : Int) ∈ layL k n ↔ p % (n / k) = 0 := by
  have hq : 1 ≤ n / k := (Nat.one_le_div_iff (by omega)).2 (Nat.le_of_dvd (by omega) (Nat.dvd_of_mod_eq_zero hd))
  unfold layL
  rw [List.mem_map]
  constructor
  · rintro ⟨i, hi, h⟩
    have e : i * n / k = p := by omega
    rw [layL_div hk hd] at e
    rw [← e, Nat.mul_mod_left]
  · intro h
    have e : p = (p / (n / k)) * (n / k) := by have := Nat.div_add_mod p (n / k); rw [Nat.mul_comm]; omega
    refine ⟨p / (n / k), ?_, ?_⟩
    · rw [List.mem_range, Nat.div_lt_iff_lt_mul (by omega), Nat.mul_div_cancel' (Nat.dvd_of_mod_eq_zero hd)]
      exact hp
    · rw [layL_div hk hd]; omega
def remL (n : Nat) (l : List Int) : List Int := l.map fun x => x % (n : Int)
end Go.Proofs.YtjecdmlojgmbeaaGreatDoor
