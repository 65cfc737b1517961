/- Plain facts: what FnCanons asks of tight canons. -/
import Derived.Test.YtjecdmlojgmbeaaGreatDoorFtg
import Derived.Test.YtjecdmlojgmbeaaGreatDoorFlp
import Derived.Test.YtjecdmlojgmbeaaGreatDoorPureB
import Derived.Test.YtjecdmlojgmbeaaGreatDoorFcv
import Derived.Test.YtjecdmlojgmbeaaGreatDoorFfc
import Derived.Test.YtjecdmlojgmbeaaGreatDoorFrc
import Derived.Test.YtjecdmlojgmbeaaGreatDoorFpha
import Derived.Test.YtjecdmlojgmbeaaGreatDoorFbt
namespace Go.Proofs.YtjecdmlojgmbeaaGreatDoor
theorem emod_idJ {n : Nat} {x : Int} (h : 0 ≤ x ∧ x < n) : x % (n : Int) = x := Int.emod_eq_of_lt h.1 h.2
theorem mem_rotJ {n : Nat} {l : List Int} (hl : ∀ x ∈ l, 0 ≤ x ∧ x < n) {k x : Int} : x ∈ rotL n l k ↔ (0 ≤ x ∧ x < n) ∧ (x - k) % (n : Int) ∈ l := by
  unfold rotL
  rw [mem_rhL]
  refine and_congr_right fun hx => ?_
  unfold remL addL
  rw [List.map_map, List.mem_map]
  constructor
  · rintro ⟨y, hy, rfl⟩
    simp only [Function.comp]
    rw [Int.emod_sub_emod, show y + k - k = y by omega, emod_idJ (hl y hy)]
    exact hy
  · intro h
    refine ⟨_, h, ?_⟩
    simp only [Function.comp]
    rw [Int.emod_add_emod, show x - k + k = x by omega, emod_idJ hx]
theorem rh_cardJ {n : Nat} {m : List Int} (hn : m.Nodup) (hm : ∀ x ∈ m, 0 ≤ x ∧ x < n) : (rhL n m).length = m.length :=
  ((List.perm_ext_iff_of_nodup (rhL_inc n m).nodup hn).2 fun x => by rw [mem_rhL]; exact ⟨fun h => h.2, fun h => ⟨hm x h, h⟩⟩).length_eq
theorem rot_cardJ {n : Nat} (hn : 1 ≤ n) {l : List Int} (hi : Inc l) (hl : ∀ x ∈ l, 0 ≤ x ∧ x < n) (k : Int) : (rotL n l k).length = l.length := by
  have hnd : (remL n (addL k l)).Nodup := by
    unfold remL addL
    rw [List.map_map]
    unfold List.Nodup
    rw [List.pairwise_map]
    refine List.Pairwise.imp_of_mem (fun {a b} ha hb hab => ?_) hi
    simp only [Function.comp]
    intro e
    have h1 := hl a ha
    have h2 := hl b hb
    have e2 : (a + k - k) % (n : Int) = (b + k - k) % (n : Int) := by rw [Int.sub_emod, e, ← Int.sub_emod]
    rw [show a + k - k = a by omega, show b + k - k = b by omega, emod_idJ h1, emod_idJ h2] at e2
    omega
  unfold rotL
  rw [rh_cardJ hnd (fun x hx => remL_mem hn hx), remL_len, addL_len]
theorem rot_okJ {n : Nat} {l : List Int} (h : RhyOk n l) (k : Int) : RhyOk n (rotL n l k) := ⟨h.1, rhL_inc _ _, fun _ hx => rotL_mem hx⟩
theorem rot_zeroJ {n : Nat} {l : List Int} (h : RhyOk n l) : rotL n l 0 = l := by
  refine inc_ext (rhL_inc _ _) h.2.1 fun x => ?_
  show x ∈ rotL n l 0 ↔ x ∈ l
  rw [mem_rotJ h.2.2, Int.sub_zero]
  exact ⟨fun h' => by rw [emod_idJ h'.1] at h'; exact h'.2, fun h' => ⟨h.2.2 x h', by rw [emod_idJ (h.2.2 x h')]; exact h'⟩⟩
/-! the counts of the sums -/
theorem bmp_get (a : List Int) (j k : Nat) (hj : j < a.length) : (bmp a j).getD k 0 = a.getD k 0 + if j = k then 1 else 0 := by
  unfold bmp
  by_cases e : j = k
  · subst e
    rw [if_pos rfl, List.getD_eq_getElem?_getD, List.getElem?_set_self hj]
    rfl
  · rw [if_neg e, List.getD_eq_getElem?_getD, List.getElem?_set_ne e, ← List.getD_eq_getElem?_getD]
    omega
/-- how many of r are at p's distance from k -/
def hitJ (n : Nat) (p : Int) (r : List Int) (k : Nat) : Nat := (r.filter fun q => decide (((p + q) % (n : Int)).toNat = k)).length
theorem scIn_get {n : Nat} (hn : 1 ≤ n) {p : Int} (k : Nat) (r : List Int) : ∀ a : List Int, a.length = n → (scIn n p a r).getD k 0 = a.getD k 0 + hitJ n p r k ∧ (scIn n p a r).length = n := by
  induction r with
  | nil => intro a h; exact ⟨by simp [scIn, hitJ], h⟩
  | cons q r ih =>
    intro a h
    have h1 : ((p + q) % (n : Int)).toNat < a.length := by
      have h3 := Int.emod_lt_of_pos (p + q) (show (0 : Int) < n by omega)
      have h4 := Int.emod_nonneg (p + q) (show (n : Int) ≠ 0 by omega)
      omega
    have h2 := ih (bmp a ((p + q) % (n : Int)).toNat) (by unfold bmp; rw [List.length_set]; exact h)
    refine ⟨?_, h2.2⟩
    have h4 : (scIn n p a (q :: r)).getD k 0 = _ := h2.1
    rw [h4, bmp_get _ _ _ h1]
    unfold hitJ
    rw [List.filter_cons]
    by_cases e : ((p + q) % (n : Int)).toNat = k
    · simp [e]; omega
    · simp [e]
def sumJ (n : Nat) (l r : List Int) (k : Nat) : Nat := (l.map fun p => hitJ n p r k).sum
theorem sc_get {n : Nat} (hn : 1 ≤ n) (k : Nat) (r : List Int) : ∀ (l a : List Int), a.length = n → (l.foldl (fun a p => scIn n p a r) a).getD k 0 = a.getD k 0 + sumJ n l r k := by
  intro l
  induction l with
  | nil => intro a _; simp [sumJ]
  | cons p l ih =>
    intro a h
    have h1 := scIn_get hn (p := p) k r a h
    have h2 := ih (scIn n p a r) h1.2
    rw [List.foldl_cons, h2, h1.1]
    unfold sumJ
    rw [List.map_cons, List.sum_cons]
    omega
theorem sumJ_cons (n : Nat) (l r : List Int) (q : Int) (k : Nat) : sumJ n l (q :: r) k = (l.filter fun p => decide (((p + q) % (n : Int)).toNat = k)).length + sumJ n l r k := by
  induction l with
  | nil => simp [sumJ]
  | cons p l ih =>
    unfold sumJ at ih ⊢
    rw [List.map_cons, List.sum_cons, ih, List.map_cons, List.sum_cons, List.filter_cons]
    unfold hitJ
    rw [List.filter_cons]
    by_cases e : ((p + q) % (n : Int)).toNat = k
    · simp [e]; omega
    · simp [e]; omega
theorem one_hitJ {n : Nat} (hn : 1 ≤ n) {q : Int} {k : Nat} (hk : k < n) : ∀ {l : List Int}, l.Nodup → (∀ x ∈ l, 0 ≤ x ∧ x < n) → (l.filter fun p => decide (((p + q) % (n : Int)).toNat = k)).length = if ((k : Int) - q) % (n : Int) ∈ l then 1 else 0 := by
  intro l hnd hl
  have hiff : ∀ p : Int, 0 ≤ p ∧ p < n → (((p + q) % (n : Int)).toNat = k ↔ p = ((k : Int) - q) % (n : Int)) := by
    intro p hp
    have h4 := Int.emod_nonneg (p + q) (show (n : Int) ≠ 0 by omega)
    constructor
    · intro e
      have e2 : (p + q) % (n : Int) = k := by omega
      rw [← e2, Int.emod_sub_emod, show p + q - q = p by omega, emod_idJ hp]
    · intro e
      rw [e, Int.emod_add_emod, show (k : Int) - q + q = k by omega, emod_idJ (by omega)]
      simp
  have e : (l.filter fun p => decide (((p + q) % (n : Int)).toNat = k)) = l.filter fun p => decide (p = ((k : Int) - q) % (n : Int)) := by
    apply List.filter_congr
    intro p hp
    have := hiff p (hl p hp)
    simp only [this]
  rw [e]
  have e3 : (l.filter fun p => decide (p = ((k : Int) - q) % (n : Int))).length = l.count (((k : Int) - q) % (n : Int)) := by
    rw [List.count, List.countP_eq_length_filter]
    rfl
  rw [e3]
  by_cases hm : ((k : Int) - q) % (n : Int) ∈ l
  · rw [if_pos hm]
    have h1 := List.count_pos_iff.2 hm
    have h2 := List.nodup_iff_count.1 hnd (((k : Int) - q) % (n : Int))
    omega
  · rw [if_neg hm]
    exact List.count_eq_zero.2 hm
/-- the voices on a pulse -/
def vcJ (n : Nat) (l r : List Int) (t : Int) : Nat := (r.filter fun x => decide ((t - x) % (n : Int) ∈ l)).length
theorem sumJ_vc {n : Nat} (hn : 1 ≤ n) {l : List Int} (hi : Inc l) (hl : ∀ x ∈ l, 0 ≤ x ∧ x < n) {k : Nat} (hk : k < n) (r : List Int) : sumJ n l r k = vcJ n l r k := by
  induction r with
  | nil =>
    have h0 : ∀ l : List Int, sumJ n l [] k = 0 := by
      intro l
      induction l with
      | nil => rfl
      | cons p l ih => unfold sumJ at ih ⊢; rw [List.map_cons, List.sum_cons, ih]; rfl
    rw [h0]; rfl
  | cons q r ih =>
    rw [sumJ_cons, ih, one_hitJ hn hk hi.nodup hl]
    unfold vcJ
    rw [List.filter_cons]
    by_cases e : ((k : Int) - q) % (n : Int) ∈ l
    · simp [e]; omega
    · simp [e]
theorem sc_vc {n : Nat} {l r : List Int} (h : RhyOk n l) {k : Nat} (hk : k < n) : (scL n l r).getD k 0 = (vcJ n l r k : Int) := by
  have hn : 1 ≤ n := by omega
  have h1 := sc_get hn k r l (List.replicate n 0) List.length_replicate
  have h2 : (List.replicate n (0 : Int)).getD k 0 = 0 := by simp [List.getD_eq_getElem?_getD, List.getElem?_replicate, hk]
  unfold scL
  rw [h1, h2, sumJ_vc hn h.2.1 h.2.2 hk]
  omega
theorem vs_lenJ (n : Nat) (l : List Int) (t : Int) (r : List Int) : ∀ j, j ≤ r.length → (vsUp n l r t j).length = ((r.take j).filter fun x => decide ((t - x) % (n : Int) ∈ l)).length := by
  intro j
  induction j with
  | zero => intro _; simp [vsUp]
  | succ j ih =>
    intro hj
    have hx : r[j]? = some (r.getD j 0) := get_of_lt (by omega)
    rw [List.take_add_one, hx, List.filter_append, List.length_append, ← ih (by omega)]
    by_cases e : (t - r.getD j 0) % (n : Int) ∈ l
    · rw [vsUp_t hx e]; simp only [Option.toList, List.filter_cons, e]; simp
    · rw [vsUp_f hx e]; simp only [Option.toList, List.filter_cons, e]; simp
theorem vs_vc (n : Nat) (l r : List Int) (t : Int) : (vsL n l r t).length = vcJ n l r t := by
  unfold vsL vcJ
  rw [vs_lenJ n l t r _ (Nat.le_refl _), List.take_length]
/-! a tiling: one voice on each pulse -/
theorem til_one {n : Nat} {l r : List Int} (h : TilOk n l r) {t : Nat} (ht : t < n) : vcJ n l r t = 1 := by
  have hn : 1 ≤ n := by omega
  have hlen := (few_scL n l r h.okl.len h.okr.len).len
  have hs := sum_scL hn l r
  rw [← Int.natCast_mul, h.mul] at hs
  -- all are positive
  have hpos : ∀ k : Nat, k < n → 1 ≤ (scL n l r).getD k 0 := by
    intro k hk
    have hf := h.full
    unfold posL at hf
    have hall := List.length_filter_eq_length_iff.1 (by rw [hf, rng_len] : ((rng n).filter fun p => decide (0 < (scL n l r).getD p.toNat 0)).length = (rng n).length)
    have := hall (k : Int) (mem_rng.2 (by omega))
    simp only [Int.toNat_natCast, decide_eq_true_eq] at this
    omega
  have hneg : ∀ x ∈ (scL n l r).map (fun x => 2 - x), x ≤ 1 := by
    intro x hx
    obtain ⟨y, hy, rfl⟩ := List.mem_map.1 hx
    obtain ⟨m, hm, rfl⟩ := List.getElem_of_mem hy
    have := hpos m (by omega)
    rw [getD_of (List.getElem?_eq_getElem hm)] at this
    omega
  have hsum : ∀ a : List Int, (a.map (fun x => 2 - x)).sum = 2 * a.length - a.sum := by
    intro a
    induction a with
    | nil => rfl
    | cons x a ih => rw [List.map_cons, List.sum_cons, ih, List.sum_cons, List.length_cons]; omega
  have h1 := sum_all1 _ hneg (by rw [hsum, List.length_map, hlen, hs]; omega)
  have hg := get_of_lt (l := scL n l r) (k := t) (by omega)
  have h2 := h1 _ (List.mem_map.2 ⟨_, List.mem_of_getElem? hg, rfl⟩)
  rw [sc_vc h.okl ht] at h2
  omega
theorem til_of {n : Nat} {l r : List Int} (h1 : RhyOk n l) (h2 : RhyOk n r) (hm : l.length * r.length = n) (hv : ∀ t : Nat, t < n → 1 ≤ vcJ n l r t) : TilOk n l r := by
  refine ⟨h1, h2, hm, ?_⟩
  unfold posL
  rw [List.filter_eq_self.2]
  · exact rng_len n
  · intro x hx
    have hx2 := mem_rng.1 hx
    obtain ⟨t, rfl⟩ := Int.eq_ofNat_of_zero_le hx2.1
    have := hv t (by omega)
    rw [decide_eq_true_eq, Int.toNat_natCast, sc_vc h1 (by omega)]
    omega
theorem vc_pos {n : Nat} {l r : List Int} {t : Int} : 1 ≤ vcJ n l r t ↔ ∃ x ∈ r, (t - x) % (n : Int) ∈ l := by
  unfold vcJ
  constructor
  · intro h
    obtain ⟨x, hx⟩ := List.exists_mem_of_length_pos h
    rw [List.mem_filter, decide_eq_true_eq] at hx
    exact ⟨x, hx⟩
  · rintro ⟨x, hx, h⟩
    exact List.length_pos_of_mem (List.mem_filter.2 ⟨hx, by rw [decide_eq_true_eq]; exact h⟩)
theorem til_swap {n : Nat} {l r : List Int} (h : TilOk n l r) : TilOk n r l := by
  refine til_of h.okr h.okl (by rw [Nat.mul_comm]; exact h.mul) fun t ht => ?_
  obtain ⟨x, hx, hm⟩ := vc_pos.1 (Nat.le_of_eq (til_one h ht).symm)
  refine vc_pos.2 ⟨_, hm, ?_⟩
  rw [Int.sub_emod_emod, show (t : Int) - (t - x) = x by omega, emod_idJ (h.okr.2.2 x hx)]
  exact hx
theorem til_rot {n : Nat} {l r : List Int} (h : TilOk n l r) (i o : Int) : TilOk n (rotL n l i) (rotL n r o) := by
  have hn : 1 ≤ n := by have := h.okl.1; omega
  refine til_of (rot_okJ h.okl i) (rot_okJ h.okr o) (by rw [rot_cardJ hn h.okl.2.1 h.okl.2.2, rot_cardJ hn h.okr.2.1 h.okr.2.2]; exact h.mul) fun t ht => ?_
  obtain ⟨z, hz⟩ := Int.eq_ofNat_of_zero_le (show 0 ≤ ((t : Int) - i - o) % (n : Int) from Int.emod_nonneg _ (by omega))
  have hzn : z < n := by have := Int.emod_lt_of_pos ((t : Int) - i - o) (show (0 : Int) < n by omega); omega
  obtain ⟨x, hx, hm⟩ := vc_pos.1 (Nat.le_of_eq (til_one h hzn).symm)
  have hb : ∀ y : Int, 0 ≤ y % (n : Int) ∧ y % (n : Int) < n := fun y => ⟨Int.emod_nonneg _ (by omega), Int.emod_lt_of_pos _ (by omega)⟩
  refine vc_pos.2 ⟨(x + o) % (n : Int), (mem_rotJ h.okr.2.2).2 ⟨hb _, ?_⟩, (mem_rotJ h.okl.2.2).2 ⟨hb _, ?_⟩⟩
  · rw [Int.emod_sub_emod, show x + o - o = x by omega, emod_idJ (h.okr.2.2 x hx)]; exact hx
  · rw [Int.emod_sub_emod, show (t : Int) - (x + o) % (n : Int) - i = t - i - (x + o) % (n : Int) by omega, Int.sub_emod_emod, show (t : Int) - i - (x + o) = t - i - o - x by omega]
    have : ((z : Int) - x) % (n : Int) = ((t : Int) - i - o - x) % (n : Int) := by rw [← hz, Int.emod_sub_emod]
    rw [← this]; exact hm
theorem til_iff {n : Nat} {l r : List Int} (h1 : RhyOk n l) (h2 : RhyOk n r) : tilB n l r = true ↔ ∀ t : Nat, t < n → vcJ n l r t = 1 := by
  constructor
  · intro h t ht; exact til_one (tilB_ok h1 h2 h) ht
  · intro h
    have hn : 1 ≤ n := by have := h1.1; omega
    refine tilB_of (til_of h1 h2 ?_ fun t ht => Nat.le_of_eq (h t ht).symm)
    have hlen := (few_scL n l r h1.len h2.len).len
    have hs := sum_scL hn l r
    have hall : ∀ x ∈ scL n l r, x = 1 := by
      intro x hx
      obtain ⟨m, hm, rfl⟩ := List.getElem_of_mem hx
      have := sc_vc (r := r) h1 (k := m) (by omega)
      rw [getD_of (List.getElem?_eq_getElem hm), h m (by omega)] at this
      exact this
    have hsum : ∀ a : List Int, (∀ x ∈ a, x = 1) → a.sum = a.length := by
      intro a
      induction a with
      | nil => intro _; rfl
      | cons x a ih =>
        intro h
        have h5 := ih fun y hy => h y (List.mem_cons_of_mem _ hy)
        have h6 := h x (List.mem_cons_self ..)
        rw [List.sum_cons, List.length_cons, h5, h6]; omega
    rw [hsum _ hall, hlen, ← Int.natCast_mul] at hs
    omega
/-! what the law asks -/
theorem til_can {n : Nat} {l r : List Int} (h : TilOk n l r) : canOk n n l r := by
  have hn := h.okl.1
  have hm := h.mul
  refine ⟨⟨h.okl, h.okr, rfl⟩, fun e => ?_, fun e => ?_⟩
  · rw [e] at hm; simp at hm; omega
  · rw [e] at hm; simp at hm; omega
theorem til_tig {n : Nat} {l r : List Int} (h : TilOk n l r) : tigB n n l r = true := by
  unfold tigB
  rw [canB_t (til_can h), Int.toNat_natCast, tilB_of h]
  rfl
theorem clu_0 {n : Nat} {l r : List Int} (h : TilOk n l r) : cluI n l r = 0 := by
  unfold cluI cluN
  rw [List.length_eq_zero_iff, List.filter_eq_nil_iff]
  intro x hx
  obtain ⟨m, hm, rfl⟩ := List.getElem_of_mem (List.mem_of_mem_take hx)
  have hlen := (few_scL n l r h.okl.len h.okr.len).len
  have := sc_vc (r := r) h.okl (k := m) (by omega)
  rw [getD_of (List.getElem?_eq_getElem hm), til_one h (by omega)] at this
  simp [this]
theorem vs_add (n : Nat) (l r : List Int) (t : Int) : vsL n l r (t + n) = vsL n l r t := by
  unfold vsL vsUp
  have : ∀ x : Int, (t + (n : Int) - x) % (n : Int) = (t - x) % (n : Int) := fun x => by rw [show t + (n : Int) - x = t - x + n by omega, Int.add_emod_right]
  simp only [this]
/-- the one voice on pulse t -/
theorem vs_one {n : Nat} {l r : List Int} (h : TilOk n l r) {t : Nat} (ht : t < n) : ∃ v : Nat, vsL n l r t = [(v : Int)] ∧ v < r.length ∧ ((t : Int) - r.getD v 0) % (n : Int) ∈ l := by
  have h1 : (vsL n l r t).length = 1 := by rw [vs_vc]; exact til_one h ht
  obtain ⟨x, hx⟩ := List.length_eq_one_iff.1 h1
  have hm : x ∈ vsL n l r t := by rw [hx]; simp
  unfold vsL vsUp at hm
  rw [List.mem_map] at hm
  obtain ⟨v, hv, rfl⟩ := hm
  rw [List.mem_filter, List.mem_range, decide_eq_true_eq] at hv
  exact ⟨v, hx, hv.1, hv.2⟩
theorem ln_get {n : Nat} {l r : List Int} (h : TilOk n l r) {t v : Nat} (ht : t < n) (hv : vsL n l r t = [(v : Int)]) : (lnL n n l r)[t]? = some (v : Int) := by
  rw [lnL_t (til_can h)]
  unfold lnUp
  rw [List.getElem?_map, List.getElem?_range ht]
  simp only [Option.map_some]
  rw [hv]
  rfl
theorem ln_len {n : Nat} {l r : List Int} (h : TilOk n l r) : (lnL n n l r).length = n := by
  rw [lnL_t (til_can h), lnUp_len]
/-- two rhythms of any kind: the marks of the line -/
def cntM2 (m : List Int) : Nat := (m.filter fun x => decide (x = -2)).length
theorem ln_val (n : Nat) (l r : List Int) (t : Nat) : (lnC (vsL n l r t) = -2 ↔ 1 < vcJ n l r t) ∧ (lnC (vsL n l r t) = -1 ↔ vcJ n l r t = 0) := by
  rw [← vs_vc]
  by_cases h0 : (vsL n l r t).length = 0
  · rw [lnC_0 h0]; omega
  · by_cases h1 : (vsL n l r t).length = 1
    · have hx : (vsL n l r t)[0]? = some ((vsL n l r t).getD 0 0) := get_of_lt (by omega)
      rw [lnC_1 h1 hx]
      have hm := List.mem_of_getElem? hx
      have : ∀ x ∈ vsL n l r t, 0 ≤ x := by
        intro x hx
        unfold vsL vsUp at hx
        rw [List.mem_map] at hx
        obtain ⟨v, _, rfl⟩ := hx
        omega
      have := this _ hm
      omega
    · rw [lnC_2 h0 h1]; omega
theorem cnt_clu {n : Nat} {l r : List Int} (h : RhyOk n l) (h2 : RhyOk n r) : ∀ j, j ≤ n → cntM2 (lnUp n l r j) = cluN (scL n l r) j := by
  intro j
  have hlen := (few_scL n l r h.len h2.len).len
  induction j with
  | zero => intro _; simp [cntM2, lnUp, cluN]
  | succ j ih =>
    intro hj
    have hx : (scL n l r)[j]? = some ((scL n l r).getD j 0) := get_of_lt (by omega)
    have hv := sc_vc (r := r) h (k := j) (by omega)
    have hl := (ln_val n l r j).1
    have hs : cntM2 (lnUp n l r (j + 1)) = cntM2 (lnUp n l r j) + if lnC (vsL n l r j) = -2 then 1 else 0 := by
      unfold cntM2
      rw [lnUp_succ, List.filter_append, List.length_append]
      split <;> rename_i hc <;> simp [hc]
    rw [hs, ih (by omega)]
    by_cases e : 1 < (scL n l r).getD j 0
    · rw [cluN_t hx e, if_pos (hl.2 (by omega))]
    · rw [cluN_f hx e, if_neg (fun hc => by have := hl.1 hc; omega)]; rfl
theorem any_m1 {n : Nat} {l r : List Int} : (-1 : Int) ∈ lnUp n l r n ↔ ∃ t : Nat, t < n ∧ vcJ n l r t = 0 := by
  unfold lnUp
  rw [List.mem_map]
  constructor
  · rintro ⟨t, ht, e⟩
    exact ⟨t, List.mem_range.1 ht, (ln_val n l r t).2.1 e⟩
  · rintro ⟨t, ht, e⟩
    exact ⟨t, List.mem_range.2 ht, (ln_val n l r t).2.2 e⟩
theorem tig_p {n : Nat} {l r : List Int} (h : canOk n n l r) : tigB n n l r = (decide (cluI n l r = 0) && !decide ((-1 : Int) ∈ lnL n n l r)) := by
  have h1 := h.1.1
  have h2 := h.1.2.1
  unfold tigB
  rw [canB_t h, Int.toNat_natCast, Bool.true_and, lnL_t h]
  have hc := cnt_clu h1 h2 n (Nat.le_refl _)
  rw [Bool.eq_iff_iff, til_iff h1 h2, Bool.and_eq_true, decide_eq_true_eq, Bool.not_eq_true', decide_eq_false_iff_not, any_m1]
  unfold cluI
  rw [← hc]
  have hz : cntM2 (lnUp n l r n) = 0 ↔ ∀ t : Nat, t < n → ¬ 1 < vcJ n l r t := by
    unfold cntM2
    rw [List.length_eq_zero_iff, List.filter_eq_nil_iff]
    constructor
    · intro hh t ht hc
      refine hh (lnC (vsL n l r t)) ?_ (by rw [decide_eq_true_eq]; exact (ln_val n l r t).1.2 hc)
      unfold lnUp
      exact List.mem_map.2 ⟨t, List.mem_range.2 ht, rfl⟩
    · intro hh x hx
      unfold lnUp at hx
      obtain ⟨t, ht, rfl⟩ := List.mem_map.1 hx
      rw [decide_eq_true_eq]
      exact fun hc => hh t (List.mem_range.1 ht) ((ln_val n l r t).1.1 hc)
  rw [hz]
  constructor
  · intro hh
    exact ⟨fun t ht => by have := hh t ht; omega, fun ⟨t, ht, e⟩ => by have := hh t ht; omega⟩
  · rintro ⟨ha, hb⟩ t ht
    have := ha t ht
    have : ¬ vcJ n l r t = 0 := fun e => hb ⟨t, ht, e⟩
    omega
/-! the canon's lines read back -/
theorem nxt_find {n : Nat} {l : List Int} {line : ByteArray} {q : Nat} (hq : q < n) (ht : rtT n l q = line) : ∀ {o : Nat}, o ≤ q → nxt n l line o ≤ q ∧ rtT n l (nxt n l line o) = line := by
  have : ∀ (d o : Nat), q - o = d → o ≤ q → nxt n l line o ≤ q ∧ rtT n l (nxt n l line o) = line := by
    intro d
    induction d with
    | zero =>
      intro o h1 h2
      obtain rfl : o = q := by omega
      rw [nxt_hit hq ht]; exact ⟨Nat.le_refl _, ht⟩
    | succ d ih =>
      intro o h1 h2
      by_cases h : rtT n l o = line
      · rw [nxt_hit (by omega) h]; exact ⟨h2, h⟩
      · rw [nxt_go (by omega) h]
        exact ih (o + 1) (by omega) (by omega)
  intro o h
  exact this _ o rfl h
/-- reading the first k lines of the canon of l and r -/
theorem rd_can {n : Nat} {l r : List Int} (hr : Inc r ∧ ∀ x ∈ r, 0 ≤ x ∧ x < (n : Int)) : ∀ k, k ≤ r.length → ∃ es, rdUp n l (fcN n l r) k = some es ∧ es.length = k ∧ (∀ x, r[k]? = some x → (nextP es : Int) ≤ x) ∧
    ∀ (j : Nat) (e : Int), es[j]? = some e → (fcN n l r)[j]? = some (strOfNums (txU n (rotL n l e))) := by
  intro k
  induction k with
  | zero =>
    intro _
    exact ⟨[], rfl, rfl, fun x hx => by have := hr.2 x (List.mem_of_getElem? hx); simp [nextP]; omega, fun j e h => by simp at h⟩
  | succ k ih =>
    intro hk
    obtain ⟨es, h1, h2, h3, h4⟩ := ih (by omega)
    have hx : r[k]? = some (r.getD k 0) := get_of_lt (by omega)
    have hb := hr.2 _ (List.mem_of_getElem? hx)
    obtain ⟨q, hq⟩ := Int.eq_ofNat_of_zero_le hb.1
    have hline : (fcN n l r)[k]? = some (rtT n l q) := by
      unfold fcN
      rw [List.getElem?_map, hx, hq]
      rfl
    have hle := h3 _ hx
    obtain ⟨h5, h6⟩ := nxt_find (l := l) (show q < n by omega) rfl (o := nextP es) (by omega)
    have h7 := rd_some h1 hline (by omega)
    refine ⟨_, h7, by simp [h2], fun y hy => ?_, fun j e he => ?_⟩
    · rw [nextP_app]
      have hlt : r.getD k 0 < y := by
        have h8 := (List.getElem?_eq_some_iff.1 hy)
        have h9 := (List.getElem?_eq_some_iff.1 hx)
        rw [← h8.2, ← h9.2]
        exact List.pairwise_iff_getElem.1 hr.1 k (k + 1) h9.1 h8.1 (by omega)
      omega
    · by_cases hj : j < es.length
      · rw [List.getElem?_append_left hj] at he
        exact h4 j e he
      · have : j = es.length := by
          have := (List.getElem?_eq_some_iff.1 he).1
          simp at this; omega
        subst this
        rw [List.getElem?_append_right (Nat.le_refl _)] at he
        simp at he
        subst he
        rw [h2, hline]
        exact congrArg some h6.symm
/-- the text of a rhythm read back -/
theorem tx_size (n : Nat) (l : List Int) : (strOfNums (txU n l)).size = n := by
  rw [← size_list, strOfNums_list, List.length_map, txU_len]
theorem tx_byte {n p : Nat} (l : List Int) (h : p < n) : (strOfNums (txU n l)).data.toList[p]? = some (if (p : Int) ∈ l then 120 else 46) := by
  rw [strOfNums_list, List.getElem?_map, txU_get l h]
  by_cases e : (p : Int) ∈ l
  · rw [if_pos e, if_pos e]; rfl
  · rw [if_neg e, if_neg e]; rfl
theorem tx_pr {n : Nat} {l : List Int} (h : RhyOk n l) : prB (strOfNums (txU n l)) = true ∧ prL (strOfNums (txU n l)) = l := by
  have hn := h.1
  have hd : dotB (strOfNums (txU n l)) = true := by
    unfold dotB
    rw [List.all_eq_true]
    intro b hb
    obtain ⟨p, hp, rfl⟩ := List.getElem_of_mem hb
    have hp2 : p < n := by rw [size_list, tx_size] at hp; exact hp
    have := tx_byte l hp2
    rw [List.getElem?_eq_getElem hp] at this
    injection this with this
    rw [this]
    split <;> rfl
  have hb : prB (strOfNums (txU n l)) = true := by
    unfold prB
    rw [tx_size, hd]
    simp; omega
  refine ⟨hb, ?_⟩
  rw [(pr_t hb).2.1, tx_size]
  refine inc_ext (psUp_inc _ _).1 h.2.1 fun x => ?_
  constructor
  · intro hx
    obtain ⟨p, rfl⟩ := Int.eq_ofNat_of_zero_le ((psUp_inc _ _).2 x hx).1
    obtain ⟨h1, h2⟩ := psUp_mem.1 hx
    rw [tx_byte l h1] at h2
    by_cases e : (p : Int) ∈ l
    · exact e
    · rw [if_neg e] at h2; injection h2 with h2; exact absurd h2 (by decide)
  · intro hx
    have hb := h.2.2 x hx
    obtain ⟨p, rfl⟩ := Int.eq_ofNat_of_zero_le hb.1
    refine psUp_mem.2 ⟨by omega, ?_⟩
    rw [tx_byte l (by omega), if_pos hx]
/-- the lines of a tight canon that starts at 0: read back they give the same lines -/
theorem can_back {n : Nat} {a b : List Int} (h : TilOk n a b) (h0 : b[0]? = some 0) : ∃ es, rdcB (fcN n a b) = true ∧ rdcN (fcN n a b) = n ∧ rdcI (fcN n a b) = a ∧ rcE (fcN n a b) = es ∧ es.length = b.length ∧ canOk n n a es ∧ fcN n a es = fcN n a b ∧ (fcN n a b)[0]? = some (strOfNums (txU n a)) := by
  have hc := til_can h
  have hline : (fcN n a b)[0]? = some (strOfNums (txU n a)) := by
    unfold fcN
    rw [List.getElem?_map, h0]
    simp only [Option.map_some, rot_zeroJ h.okl]
  have hhead : rcHead (fcN n a b) = strOfNums (txU n a) := by
    unfold rcHead
    cases e : fcN n a b with
    | nil => rw [e] at hline; cases hline
    | cons s t => rw [e] at hline; simp at hline; simp [hline]
  obtain ⟨hp1, hp2⟩ := tx_pr h.okl
  have hne : ¬ fcN n a b = [] := fun e => by rw [e] at hline; cases hline
  obtain ⟨es, h1, h2, h3, h4⟩ := rd_can (n := n) (l := a) h.okr.2 b.length (Nat.le_refl _)
  have ho : rdcO (fcN n a b) = some es := by
    unfold rdcO
    rw [hhead, hp2, tx_size, if_pos ⟨hp1, hc.2.1, hne⟩, fcN_len]
    exact h1
  obtain ⟨q1, q2, q3, q4⟩ := rc_some ho
  obtain ⟨r1, r2, r3, r4, r5⟩ := rd_ok h1
  refine ⟨es, q1, by rw [q2, hhead, tx_size], by rw [q3, hhead, hp2], q4, h2, ⟨⟨h.okl, ⟨h.okl.1, r2, r3⟩, rfl⟩, hc.2.1, fun e => ?_⟩, ?_, hline⟩
  · have := List.length_pos_iff.2 hc.2.2
    rw [e] at h2
    simp at h2
    omega
  · apply List.ext_getElem?
    intro j
    by_cases hj : j < es.length
    · have he : es[j]? = some (es.getD j 0) := get_of_lt hj
      rw [h4 j _ he]
      show (es.map fun o => strOfNums (txU n (rotL n a o)))[j]? = _
      rw [List.getElem?_map, he]
      rfl
    · rw [List.getElem?_eq_none (by rw [fcN_len]; omega), List.getElem?_eq_none (by rw [fcN_len]; omega)]
/-- voice v's rhythm has a beat on t -/
theorem vr_beat {n : Nat} {l r : List Int} (h : TilOk n l r) {t v : Nat} (ht : t < n) (hv : v < r.length) (hm : ((t : Int) - r.getD v 0) % (n : Int) ∈ l) : vrOk n n l r v ∧ (t : Int) % (n : Int) ∈ rotL n l (r.getD v 0) := by
  refine ⟨⟨til_can h, by omega, by omega⟩, ?_⟩
  rw [emod_idJ (by omega), mem_rotJ h.okl.2.2]
  exact ⟨by omega, hm⟩
end Go.Proofs.YtjecdmlojgmbeaaGreatDoor
