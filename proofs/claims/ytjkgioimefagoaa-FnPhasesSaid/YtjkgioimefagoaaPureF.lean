/- Plain facts: what FnPhases asks of the phases of a rhythm. -/
import Derived.Test.YtjkgioimefagoaaFdf
import Derived.Test.YtjkgioimefagoaaFpe
import Derived.Test.YtjkgioimefagoaaFpro
import Derived.Test.YtjkgioimefagoaaFpb
import Derived.Test.YtjkgioimefagoaaFcp
namespace Go.Proofs.Ytjkgioimefagoaa
theorem emod_id {n : Nat} {x : Int} (h : 0 ≤ x ∧ x < n) : x % (n : Int) = x := Int.emod_eq_of_lt h.1 h.2
theorem mem_rotL {n : Nat} (hn : 1 ≤ n) {l : List Int} (hl : ∀ x ∈ l, 0 ≤ x ∧ x < n) {k x : Int} : x ∈ rotL n l k ↔ (0 ≤ x ∧ x < n) ∧ (x - k) % (n : Int) ∈ l := by
  unfold rotL
  rw [mem_rhL]
  refine and_congr_right fun hx => ?_
  unfold remL addL
  rw [List.map_map, List.mem_map]
  constructor
  · rintro ⟨y, hy, rfl⟩
    simp only [Function.comp]
    rw [Int.emod_sub_emod, show y + k - k = y by omega, emod_id (hl y hy)]
    exact hy
  · intro h
    refine ⟨_, h, ?_⟩
    simp only [Function.comp]
    rw [Int.emod_add_emod, show x - k + k = x by omega, emod_id hx]
theorem mem_phL {n : Nat} (hn : 1 ≤ n) {l : List Int} (hl : ∀ x ∈ l, 0 ≤ x ∧ x < n) {k x : Int} : x ∈ phL n l k ↔ (0 ≤ x ∧ x < n) ∧ (x ∈ l ∨ (x - k) % (n : Int) ∈ l) := by
  unfold phL
  rw [mem_rhL, List.mem_append, mem_rotL hn hl]
  exact ⟨fun h => ⟨h.1, h.2.imp id fun h => h.2⟩, fun h => ⟨h.1, h.2.imp id fun h' => ⟨h.1, h'⟩⟩⟩
theorem rot_mod {n : Nat} (hn : 1 ≤ n) {l : List Int} (hl : ∀ x ∈ l, 0 ≤ x ∧ x < n) (k : Int) : rotL n l (k % (n : Int)) = rotL n l k :=
  inc_ext (rhL_inc _ _) (rhL_inc _ _) fun x => by
    show x ∈ rotL n l _ ↔ x ∈ rotL n l _
    rw [mem_rotL hn hl, mem_rotL hn hl, Int.sub_emod_emod]
theorem rot_rot {n : Nat} (hn : 1 ≤ n) {l : List Int} (hl : ∀ x ∈ l, 0 ≤ x ∧ x < n) (a b : Int) : rotL n (rotL n l a) b = rotL n l (a + b) :=
  inc_ext (rhL_inc _ _) (rhL_inc _ _) fun x => by
    show x ∈ rotL n (rotL n l a) b ↔ x ∈ rotL n l (a + b)
    rw [mem_rotL hn (fun x hx => rotL_mem hx), mem_rotL hn hl, mem_rotL hn hl, Int.emod_sub_emod, show x - b - a = x - (a + b) by omega]
    refine and_congr_right fun hx => ⟨fun h => h.2, fun h => ⟨⟨Int.emod_nonneg _ (by omega), Int.emod_lt_of_pos _ (by omega)⟩, h⟩⟩
/-- the phase by n - i is a rotation of the phase by i -/
theorem ph_rot {n : Nat} (hn : 1 ≤ n) {l : List Int} (hl : ∀ x ∈ l, 0 ≤ x ∧ x < n) {i j : Int} (hij : (i + j) % (n : Int) = 0) : rotL n (phL n l i) j = phL n l j :=
  inc_ext (rhL_inc _ _) (rhL_inc _ _) fun x => by
    show x ∈ rotL n (phL n l i) j ↔ x ∈ phL n l j
    rw [mem_rotL (l := phL n l i) hn (fun x hx => (mem_rhL.1 hx).1), mem_phL hn hl, mem_phL hn hl, Int.emod_sub_emod]
    refine and_congr_right fun hx => ?_
    have e : (x - j - i) % (n : Int) = x := by
      rw [show x - j - i = x - (i + j) by omega, Int.sub_emod, hij, Int.sub_zero, Int.emod_emod, emod_id hx]
    rw [e]
    exact ⟨fun h => h.2.symm, fun h => ⟨⟨Int.emod_nonneg _ (by omega), Int.emod_lt_of_pos _ (by omega)⟩, h.symm⟩⟩
theorem ph_zero {n : Nat} {l : List Int} (h : RhyOk n l) {k : Int} (hk : k % (n : Int) = 0) : phL n l k = l := by
  have hn : 1 ≤ n := by have := h.1; omega
  refine inc_ext (rhL_inc _ _) h.2.1 fun x => ?_
  show x ∈ phL n l k ↔ x ∈ l
  rw [mem_phL hn h.2.2]
  constructor
  · rintro ⟨hx, h' | h'⟩
    · exact h'
    · rw [Int.sub_emod, hk, Int.sub_zero, Int.emod_emod, emod_id hx] at h'; exact h'
  · intro hx; exact ⟨h.2.2 x hx, .inl hx⟩
/-! the greatest rotation -/
theorem mx_max (n : Nat) (l : List Int) : ∀ k t, t < k → cod n (rotL n l (t : Nat)) ≤ cod n (mxUp n l k) := by
  intro k
  induction k with
  | zero => intro t h; omega
  | succ k ih =>
    intro t ht
    by_cases h : cod n (mxUp n l k) < cod n (rotL n l k)
    · rw [mxUp_t h]
      by_cases e : t = k
      · rw [e]; exact Nat.le_refl _
      · have := ih t (by omega); omega
    · rw [mxUp_f h]
      by_cases e : t = k
      · rw [e]; omega
      · exact ih t (by omega)
theorem mx_top {n : Nat} (hn : 1 ≤ n) {l : List Int} (hl : ∀ x ∈ l, 0 ≤ x ∧ x < n) (t : Int) : cod n (rotL n l t) ≤ cod n (mxUp n l n) := by
  rw [← rot_mod hn hl]
  obtain ⟨z, hz⟩ := Int.eq_ofNat_of_zero_le (show 0 ≤ t % (n : Int) from Int.emod_nonneg _ (by omega))
  have hzn : z < n := by have := Int.emod_lt_of_pos t (show (0 : Int) < n by omega); omega
  rw [hz]
  exact mx_max n l n z hzn
theorem mx_rot {n : Nat} (hn : 1 ≤ n) {l : List Int} (hl : ∀ x ∈ l, 0 ≤ x ∧ x < n) (j : Int) : mxUp n (rotL n l j) n = mxUp n l n := by
  have hr : ∀ x ∈ rotL n l j, 0 ≤ x ∧ x < n := fun x hx => rotL_mem hx
  refine cod_inj (mxUp_inc _ _ _) (mxUp_inc _ _ _) (mxUp_mem _ _ _) (mxUp_mem _ _ _) (Nat.le_antisymm ?_ ?_)
  · obtain ⟨a, ha⟩ := mxUp_rot n (rotL n l j) n
    rw [ha, rot_rot hn hl]
    exact mx_top hn hl _
  · obtain ⟨a, ha⟩ := mxUp_rot n l n
    rw [ha, show rotL n l a = rotL n (rotL n l j) (a - j) by rw [rot_rot hn hl]; congr 1; omega]
    exact mx_top hn hr _
theorem lst_back {n : Nat} {l : List Int} (h : RhyOk n l) {i : Nat} (hi : 1 ≤ i ∧ i < n) : lstF n l (n - i) = lstF n l i := by
  have hn : 1 ≤ n := by omega
  unfold lstF
  have e : phL n l ((n - i : Nat) : Int) = rotL n (phL n l i) ((n - i : Nat) : Int) := (ph_rot hn h.2.2 (by rw [show ((i : Int) + ((n - i : Nat) : Int)) = (n : Int) by omega]; simp)).symm
  rw [e]
  exact mx_rot hn (fun x hx => (mem_rhL.1 hx).1) _
theorem cnt_le {n : Nat} {l : List Int} (h : RhyOk n l) : 1 ≤ cntI n l ∧ cntI n l ≤ ((n / 2 + 1 : Nat) : Int) := by
  have hn : 1 ≤ n := by have := h.1; omega
  rw [cnt_t h]
  have hs : ∀ k, n / 2 + 1 ≤ k → k ≤ n → ddUp (lstF n l) k = ddUp (lstF n l) (n / 2 + 1) := by
    intro k
    induction k with
    | zero => intro h1; omega
    | succ k ih =>
      intro h1 h2
      by_cases e : n / 2 + 1 = k + 1
      · rw [e]
      · rw [ddUp_t (dd_mem.2 ⟨n - k, by omega, ?_⟩), ih (by omega) (by omega)]
        have e2 := lst_back h (i := n - k) ⟨by omega, by omega⟩
        rw [show n - (n - k) = k by omega] at e2
        exact e2.symm
  have hm : lstF n l 0 ∈ ddUp (lstF n l) n := dd_mem.2 ⟨0, hn, rfl⟩
  have hp := List.length_pos_of_mem hm
  have hle : (ddUp (lstF n l) n).length ≤ n / 2 + 1 := by
    by_cases e : n / 2 + 1 ≤ n
    · rw [hs n e (Nat.le_refl _)]; exact dd_len _ _
    · have := dd_len (lstF n l) n; omega
  omega
/-! how many beats -/
theorem rh_card {n : Nat} {m : List Int} (hn : m.Nodup) (hm : ∀ x ∈ m, 0 ≤ x ∧ x < n) : (rhL n m).length = m.length :=
  ((List.perm_ext_iff_of_nodup (rhL_inc n m).nodup hn).2 fun x => by rw [mem_rhL]; exact ⟨fun h => h.2, fun h => ⟨hm x h, h⟩⟩).length_eq
theorem rot_card {n : Nat} (hn : 1 ≤ n) {l : List Int} (hi : Inc l) (hl : ∀ x ∈ l, 0 ≤ x ∧ x < n) (k : Int) : (rotL n l k).length = l.length := by
  have hnd : (remL n (addL k l)).Nodup := by
    unfold remL addL
    rw [List.map_map]
    unfold List.Nodup
    rw [List.pairwise_map]
    refine List.Pairwise.imp_of_mem (fun {a b} ha hb hab => ?_) hi
    simp only [Function.comp]
    intro e
    have h1 := hl a ha
    have h2 := hl b hb
    have e2 : (a + k - k) % (n : Int) = (b + k - k) % (n : Int) := by rw [Int.sub_emod, e, ← Int.sub_emod]
    rw [show a + k - k = a by omega, show b + k - k = b by omega, emod_id h1, emod_id h2] at e2
    omega
  unfold rotL
  rw [rh_card hnd (fun x hx => remL_mem hn hx), remL_len, addL_len]
theorem incl (p q : Int → Bool) (l : List Int) : (l.filter fun x => p x || q x).length + (l.filter fun x => p x && q x).length = (l.filter p).length + (l.filter q).length := by
  induction l with
  | nil => rfl
  | cons x t ih => cases h1 : p x <;> cases h2 : q x <;> simp [List.filter_cons, h1, h2] <;> omega
/-- the beats whose place i before is a beat too -/
def bothN (n : Nat) (l : List Int) (i : Int) : Nat := (l.filter fun x => decide ((x - i) % (n : Int) ∈ l)).length
theorem ph_card {n : Nat} {l : List Int} (h : RhyOk n l) (i : Int) : (phL n l i).length + bothN n l i = 2 * l.length := by
  have hn : 1 ≤ n := by have := h.1; omega
  have hi := incl (fun x => decide (x ∈ l)) (fun x => decide (x ∈ rotL n l i)) (rng n)
  have h1 : ((rng n).filter fun x => decide (x ∈ l)).length = l.length := by
    show (rhL n l).length = _
    rw [rhL_eq h.2.1 h.2.2]
  have h2 : ((rng n).filter fun x => decide (x ∈ rotL n l i)).length = l.length := by
    show (rhL n (rotL n l i)).length = _
    rw [rhL_eq (l := rotL n l i) (rhL_inc _ _) (fun x hx => rotL_mem hx), rot_card hn h.2.1 h.2.2]
  have h3 : ((rng n).filter fun x => decide (x ∈ l) || decide (x ∈ rotL n l i)).length = (phL n l i).length := by
    unfold phL rhL
    congr 1
    refine List.filter_congr fun x _ => ?_
    rw [← Bool.decide_or]
    exact decide_eq_decide.2 List.mem_append.symm
  have h4 : ((rng n).filter fun x => decide (x ∈ l) && decide (x ∈ rotL n l i)).length = bothN n l i := by
    refine List.Perm.length_eq ((List.perm_ext_iff_of_nodup (Inc.nodup ((rng_inc n).filter _)) (Inc.nodup (List.Pairwise.filter _ h.2.1))).2 fun x => ?_)
    rw [List.mem_filter, List.mem_filter, mem_rng, Bool.and_eq_true, decide_eq_true_eq, decide_eq_true_eq, decide_eq_true_eq, mem_rotL hn h.2.2]
    exact ⟨fun h' => ⟨h'.2.1, h'.2.2.2⟩, fun h' => ⟨h.2.2 x h'.1, h'.1, h.2.2 x h'.1, h'.2⟩⟩
  rw [h1, h2, h3, h4] at hi
  omega
theorem both_le (n : Nat) (l : List Int) (i : Int) : bothN n l i ≤ l.length := List.length_filter_le _ _
/-! the differences -/
theorem bmp_get {a : List Int} {k i : Nat} (hk : k < a.length) : (bmp a k).getD i 0 = a.getD i 0 + if k = i then 1 else 0 := by
  unfold bmp
  rw [List.getD_eq_getElem?_getD, List.getD_eq_getElem?_getD, List.getElem?_set]
  by_cases e : k = i
  · subst e; rw [if_pos rfl, if_pos hk, if_pos rfl]; rfl
  · rw [if_neg e, if_neg e]; simp
theorem bmp_len (a : List Int) (k : Nat) : (bmp a k).length = a.length := by unfold bmp; rw [List.length_set]
def hitN (n : Nat) (p : Int) (r : List Int) (i : Nat) : Nat := (r.filter fun q => decide (((p - q) % (n : Int)).toNat = i)).length
theorem mod_lt {n : Nat} (hn : 1 ≤ n) (z : Int) : (z % (n : Int)).toNat < n := by
  have h1 := Int.emod_lt_of_pos z (show (0 : Int) < n by omega)
  have h2 := Int.emod_nonneg z (show (n : Int) ≠ 0 by omega)
  omega
theorem dfIn_get {n : Nat} (hn : 1 ≤ n) (p : Int) (i : Nat) : ∀ (r a : List Int), a.length = n → (dfIn n p a r).getD i 0 = a.getD i 0 + (hitN n p r i : Nat) ∧ (dfIn n p a r).length = n := by
  intro r
  induction r with
  | nil => intro a h; exact ⟨by simp [dfIn, hitN], h⟩
  | cons q t ih =>
    intro a h
    have h1 := ih (bmp a ((p - q) % (n : Int)).toNat) (by rw [bmp_len]; exact h)
    refine ⟨?_, h1.2⟩
    show (dfIn n p (bmp a _) t).getD i 0 = _
    rw [h1.1, bmp_get (by rw [h]; exact mod_lt hn _)]
    unfold hitN
    rw [List.filter_cons]
    by_cases e : ((p - q) % (n : Int)).toNat = i
    · rw [if_pos e, if_pos (by simpa using e), List.length_cons]; omega
    · rw [if_neg e, if_neg (by simpa using e)]; omega
def hitsN (n : Nat) (l r : List Int) (i : Nat) : Nat := l.foldr (fun p s => hitN n p r i + s) 0
theorem df_get {n : Nat} (hn : 1 ≤ n) (r : List Int) (i : Nat) : ∀ (l a : List Int), a.length = n → (l.foldl (fun a p => dfIn n p a r) a).getD i 0 = a.getD i 0 + (hitsN n l r i : Nat) ∧ (l.foldl (fun a p => dfIn n p a r) a).length = n := by
  intro l
  induction l with
  | nil => intro a h; exact ⟨by simp [hitsN], h⟩
  | cons p t ih =>
    intro a h
    have h0 := dfIn_get hn p i r a h
    have h1 := ih (dfIn n p a r) h0.2
    refine ⟨?_, h1.2⟩
    rw [List.foldl_cons, h1.1, h0.1]
    unfold hitsN
    rw [List.foldr_cons]
    omega
theorem one_hit {n : Nat} (hn : 1 ≤ n) {p : Int} (hp : 0 ≤ p ∧ p < n) {i : Nat} (hi : i < n) : ∀ {r : List Int}, r.Nodup → (∀ x ∈ r, 0 ≤ x ∧ x < n) → hitN n p r i = if (p - i) % (n : Int) ∈ r then 1 else 0 := by
  intro r hr hm
  have hiff : ∀ q ∈ r, ((p - q) % (n : Int)).toNat = i ↔ q = (p - i) % (n : Int) := by
    intro q hq
    have h1 := hm q hq
    have h2 := Int.emod_nonneg (p - q) (show (n : Int) ≠ 0 by omega)
    constructor
    · intro e
      have e2 : (p - q) % (n : Int) = (i : Int) := by omega
      rw [← e2, Int.sub_emod_emod, show p - (p - q) = q by omega, emod_id h1]
    · intro e
      rw [e, Int.sub_emod_emod, show p - (p - (i : Int)) = (i : Int) by omega, emod_id (n := n) (by omega)]
      simp
  unfold hitN
  induction r with
  | nil => simp
  | cons q t ih =>
    have ht := ih (List.nodup_cons.1 hr).2 (fun x hx => hm x (List.mem_cons_of_mem _ hx)) (fun x hx => hiff x (List.mem_cons_of_mem _ hx))
    rw [List.filter_cons]
    by_cases e : ((p - q) % (n : Int)).toNat = i
    · have e2 := (hiff q (List.mem_cons_self ..)).1 e
      have hnt : ¬ (p - i) % (n : Int) ∈ t := by rw [← e2]; exact (List.nodup_cons.1 hr).1
      rw [if_neg hnt] at ht
      rw [if_pos (by simpa using e), if_pos (by rw [← e2]; exact List.mem_cons_self ..), List.length_cons, ht]
    · have hne : ¬ (p - i) % (n : Int) = q := fun e2 => e ((hiff q (List.mem_cons_self ..)).2 e2.symm)
      rw [if_neg (by simpa using e), ht]
      by_cases hmem : (p - i) % (n : Int) ∈ t
      · rw [if_pos hmem, if_pos (List.mem_cons_of_mem _ hmem)]
      · rw [if_neg hmem, if_neg (by rw [List.mem_cons]; exact fun h => h.elim hne hmem)]
theorem hits_both {n : Nat} (hn : 1 ≤ n) {i : Nat} (hi : i < n) {r : List Int} (hr : r.Nodup) (hm : ∀ x ∈ r, 0 ≤ x ∧ x < n) : ∀ (l : List Int), (∀ x ∈ l, 0 ≤ x ∧ x < n) → hitsN n l r i = (l.filter fun x => decide ((x - i) % (n : Int) ∈ r)).length := by
  intro l
  induction l with
  | nil => intro _; rfl
  | cons p t ih =>
    intro hl
    unfold hitsN at ih ⊢
    rw [List.foldr_cons, ih (fun x hx => hl x (List.mem_cons_of_mem _ hx)), one_hit hn (hl p (List.mem_cons_self ..)) hi hr hm, List.filter_cons]
    by_cases e : (p - i) % (n : Int) ∈ r
    · rw [if_pos e, if_pos (by simpa using e), List.length_cons]; omega
    · rw [if_neg e, if_neg (by simpa using e)]; omega
theorem df_both {n : Nat} {l : List Int} (h : RhyOk n l) {i : Nat} (hi : i < n) : (dfL n l l).getD i 0 = (bothN n l i : Nat) := by
  have hn : 1 ≤ n := by omega
  have h1 := (df_get hn l i l (List.replicate n 0) List.length_replicate).1
  unfold dfL
  rw [h1, hits_both hn hi h.2.1.nodup h.2.2 l h.2.2]
  unfold bothN
  rw [List.getD_eq_getElem?_getD, List.getElem?_replicate, if_pos hi]
  simp
theorem dfL_len {n : Nat} (hn : 1 ≤ n) (l : List Int) : (dfL n l l).length = n := (df_get hn l 0 l (List.replicate n 0) List.length_replicate).2
/-! sums -/
def sumR : List Int → Int
  | [] => 0
  | x :: t => x + sumR t
theorem sumI_R (l : List Int) : sumI l = sumR l := by
  have : ∀ (l : List Int) (a : Int), l.foldl (fun a x => a + x) a = a + sumR l := by
    intro l
    induction l with
    | nil => intro a; simp [sumR]
    | cons x t ih => intro a; rw [List.foldl_cons, ih, sumR]; omega
  unfold sumI
  rw [this]; omega
theorem sumR_bmp : ∀ {a : List Int} {k : Nat}, k < a.length → sumR (bmp a k) = sumR a + 1 := by
  intro a
  unfold bmp
  induction a with
  | nil => intro k h; simp at h
  | cons x t ih =>
    intro k h
    cases k with
    | zero => simp [sumR]; omega
    | succ k =>
      have := ih (k := k) (by simpa using h)
      simp only [List.set_cons_succ, List.getD_cons_succ, sumR]
      omega
theorem sum_dfIn {n : Nat} (hn : 1 ≤ n) (p : Int) : ∀ (r a : List Int), a.length = n → sumR (dfIn n p a r) = sumR a + r.length := by
  intro r
  induction r with
  | nil => intro a h; simp [dfIn]
  | cons q t ih =>
    intro a h
    have h1 := ih (bmp a ((p - q) % (n : Int)).toNat) (by rw [bmp_len]; exact h)
    show sumR (dfIn n p (bmp a _) t) = _
    rw [h1, sumR_bmp (by rw [h]; exact mod_lt hn _), List.length_cons]
    omega
theorem sum_df {n : Nat} (hn : 1 ≤ n) (r : List Int) : ∀ (l a : List Int), a.length = n → sumR (l.foldl (fun a p => dfIn n p a r) a) = sumR a + ((l.length * r.length : Nat) : Int) := by
  intro l
  induction l with
  | nil => intro a h; simp
  | cons p t ih =>
    intro a h
    have h0 := dfIn_get hn p 0 r a h
    rw [List.foldl_cons, ih _ h0.2, sum_dfIn hn p r a h, List.length_cons, Nat.add_mul]
    omega
theorem sumR_rep (n : Nat) : sumR (List.replicate n 0) = 0 := by
  induction n with
  | zero => rfl
  | succ n ih => rw [List.replicate_succ, sumR, ih]; rfl
theorem sumR_sub (c : Int) : ∀ l : List Int, sumR (l.map fun x => c - x) = c * l.length - sumR l := by
  intro l
  induction l with
  | nil => simp [sumR]
  | cons x t ih => rw [List.map_cons, sumR, ih, sumR, List.length_cons, Int.natCast_add, Int.mul_add]; omega
theorem pc_df {n : Nat} {l : List Int} (h : RhyOk n l) : pcL n l = (dfL n l l).map fun x => 2 * (l.length : Int) - x := by
  have hn : 1 ≤ n := by have := h.1; omega
  refine List.ext_getElem? fun i => ?_
  by_cases hi : i < n
  · rw [pcL_get h hi, List.getElem?_map, get_of_lt (by rw [dfL_len hn]; exact hi), df_both h hi, Option.map_some]
    have := ph_card h i
    congr 1
    omega
  · rw [List.getElem?_eq_none (by rw [pcL_len_t h]; omega), List.getElem?_eq_none (by rw [List.length_map, dfL_len hn]; omega)]
theorem pc_sum {n : Nat} {l : List Int} (h : RhyOk n l) : sumI (pcL n l) = 2 * (l.length : Int) * (n : Int) - (l.length : Int) * (l.length : Int) := by
  have hn : 1 ≤ n := by have := h.1; omega
  rw [sumI_R, pc_df h, sumR_sub, dfL_len hn]
  unfold dfL
  rw [sum_df hn l l _ List.length_replicate, sumR_rep, Int.natCast_mul]
  omega
theorem pc_get {n : Nat} {l : List Int} (h : RhyOk n l) {i : Nat} (hi : i < n) : (pcL n l)[i]? = some ((2 * l.length - bothN n l i : Nat) : Int) := by
  rw [pcL_get h hi]
  have h1 := ph_card h i
  congr 2
  omega
/-! the thinnest and the thickest phase -/
theorem low_zero {cs : List Int} (h : ∀ i, i < cs.length → cs.getD 0 0 ≤ cs.getD i 0) : ∀ j, j ≤ cs.length → lowUp cs j = 0 := by
  intro j
  induction j with
  | zero => intro _; rfl
  | succ j ih =>
    intro hj
    have h0 := ih (by omega)
    have h1 := h j (by omega)
    rw [lowUp_f (by rw [h0]; omega), h0]
theorem high_all (cs : List Int) : ∀ j i, i < j → cs.getD i 0 ≤ cs.getD (highUp cs j) 0 := by
  intro j
  induction j with
  | zero => intro i h; omega
  | succ j ih =>
    intro i hi
    by_cases hlt : cs.getD (highUp cs j) 0 < cs.getD j 0
    · rw [highUp_t hlt]
      by_cases e : i = j
      · rw [e]; omega
      · have := ih i (by omega); omega
    · rw [highUp_f hlt]
      by_cases e : i = j
      · rw [e]; omega
      · exact ih i (by omega)
theorem firR_le {m : Int} {l' : List Int} : ∀ (rs : List (Int × List Int)) (j i : Nat), rs[i]? = some (m, l') → 0 ≤ firR m l' rs j ∧ firR m l' rs j ≤ ((j + i : Nat) : Int) := by
  intro rs
  induction rs with
  | nil => intro j i h; simp at h
  | cons r t ih =>
    intro j i h
    rw [firR]
    by_cases e : r.1 = m ∧ r.2 = l'
    · rw [if_pos e]; omega
    · rw [if_neg e]
      cases i with
      | zero => simp at h; subst h; exact absurd ⟨rfl, rfl⟩ e
      | succ i =>
        have := ih (j + 1) i (by simpa using h)
        omega
theorem pro_get (n : Nat) (l : List Int) : ∀ j k r, k < j → r < 2 → (proUp n l 2 j)[k * 2 + r]? = some ((n : Int), phL n l k) := by
  intro j
  induction j with
  | zero => intro k r h; omega
  | succ j ih =>
    intro k r hk hr
    rw [proUp_succ]
    by_cases e : k = j
    · subst e
      rw [List.getElem?_append_right (by rw [proUp_len]; omega), proUp_len, show k * 2 + r - k * 2 = r by omega, List.getElem?_replicate, if_pos hr]
    · rw [List.getElem?_append_left (by rw [proUp_len]; omega)]
      exact ih k r (by omega) hr
end Go.Proofs.Ytjkgioimefagoaa
