/- Contract: l09Between at 0, 1; plain facts of the search for a tile's partner. -/
import Derived.Test.YtjecdmlojgmbeaaGreatDoorFtil
namespace Go.Proofs.YtjecdmlojgmbeaaGreatDoor
open Go.RowKit
def Le1 (n : Nat) (l r : List Int) : Prop := ∀ x ∈ scL n l r, x ≤ 1
theorem sum_set1 : ∀ (a : List Int) (k : Nat), k < a.length → (a.set k (a.getD k 0 + 1)).sum = a.sum + 1
  | [], k, h => by simp at h
  | x :: a, 0, _ => by simp; omega
  | x :: a, k + 1, h => by
    have h2 := sum_set1 a k (by simpa using h)
    simp only [List.set_cons_succ, List.sum_cons, List.getD_cons_succ]
    rw [h2]; omega
theorem sum_scIn {n : Nat} {p : Int} (hn : 1 ≤ n) (r : List Int) : ∀ a : List Int, a.length = n → (scIn n p a r).sum = a.sum + r.length ∧ (scIn n p a r).length = n := by
  induction r with
  | nil => intro a h; exact ⟨by simp [scIn], h⟩
  | cons q r ih =>
    intro a h
    have h1 : ((p + q) % (n : Int)).toNat < a.length := by
      have h3 := Int.emod_lt_of_pos (p + q) (show (0 : Int) < n by omega)
      have h4 := Int.emod_nonneg (p + q) (show (n : Int) ≠ 0 by omega)
      omega
    have h2 := ih (bmp a ((p + q) % (n : Int)).toNat) (by unfold bmp; rw [List.length_set]; exact h)
    have h3 := sum_set1 a _ h1
    refine ⟨?_, h2.2⟩
    have h4 : (scIn n p a (q :: r)).sum = _ := h2.1
    rw [h4]
    unfold bmp
    rw [h3, List.length_cons]
    omega
theorem sum_sc {n : Nat} (hn : 1 ≤ n) (r : List Int) : ∀ (l a : List Int), a.length = n → (l.foldl (fun a p => scIn n p a r) a).sum = a.sum + (l.length : Int) * r.length := by
  intro l
  induction l with
  | nil => intro a _; simp
  | cons p l ih =>
    intro a h
    have h1 := sum_scIn (p := p) hn r a h
    have h2 := ih (scIn n p a r) h1.2
    rw [List.foldl_cons, h2, h1.1, List.length_cons, Int.natCast_add, Int.add_mul]
    omega
theorem sum_scL {n : Nat} (hn : 1 ≤ n) (l r : List Int) : (scL n l r).sum = (l.length : Int) * r.length := by
  have h := sum_sc hn r l (List.replicate n 0) List.length_replicate
  unfold scL
  rw [h]
  have : (List.replicate n (0 : Int)).sum = 0 := by
    clear h hn
    induction n with
    | zero => rfl
    | succ n ih => rw [List.replicate_succ, List.sum_cons, ih]; rfl
  omega
theorem sum_le1 : ∀ (a : List Int), (∀ x ∈ a, x ≤ 1) → a.sum ≤ a.length
  | [], _ => by simp
  | x :: a, h => by
    have h1 := sum_le1 a fun y hy => h y (by simp [hy])
    have h2 := h x (by simp)
    rw [List.sum_cons, List.length_cons]; omega
theorem sum_all1 : ∀ (a : List Int), (∀ x ∈ a, x ≤ 1) → a.sum = a.length → ∀ x ∈ a, x = 1
  | [], _, _ => by simp
  | x :: a, h, hs => by
    have h1 := sum_le1 a fun y hy => h y (by simp [hy])
    have h2 := h x (by simp)
    rw [List.sum_cons, List.length_cons] at hs
    intro y hy
    rcases List.mem_cons.1 hy with e | e
    · omega
    · exact sum_all1 a (fun y hy => h y (by simp [hy])) (by omega) y e
/-- the counts are all one where they are at most one and as many as the pulses -/
theorem le1_full {n : Nat} {l r : List Int} (hn : 1 ≤ n) (h1 : l.length ≤ 24) (h2 : r.length ≤ 24) (hm : l.length * r.length = n) (h : Le1 n l r) : (posL n (scL n l r)).length = n := by
  have hlen : (scL n l r).length = n := (few_scL n l r h1 h2).len
  have hs := sum_scL hn l r
  have hs2 : (scL n l r).sum = ((scL n l r).length : Int) := by rw [hs, hlen, ← hm, Int.natCast_mul]
  have hall := sum_all1 _ h hs2
  unfold posL
  rw [List.filter_eq_self.2]
  · exact rng_len n
  · intro x hx
    have hx2 := mem_rng.1 hx
    have hlt : x.toNat < (scL n l r).length := by omega
    have hg := get_of_lt hlt
    have := hall _ (List.mem_of_getElem? hg)
    rw [decide_eq_true_eq, this]; omega
theorem le1_nil (n : Nat) (l : List Int) : Le1 n l [] := by
  intro x hx
  have : scL n l [] = List.replicate n 0 := by
    unfold scL
    have : ∀ (l : List Int) (a : List Int), l.foldl (fun a p => scIn n p a []) a = a := by
      intro l
      induction l with
      | nil => intro a; rfl
      | cons p l ih => intro a; rw [List.foldl_cons, ih]; rfl
    exact this l _
  rw [this, List.mem_replicate] at hx
  omega
structure FI (n p : Nat) (a b : List Int) : Prop where
  oka : RhyOk n a
  n12 : n ≤ 12
  ka : 1 ≤ a.length
  dv : n % a.length = 0
  inc : Inc b ∧ ∀ x ∈ b, 0 ≤ x ∧ x < (p : Int)
  pn : p ≤ n
  st : (p = 0 ∧ b = []) ∨ (1 ≤ p ∧ b[0]? = some 0)
  le1 : Le1 n a b
theorem FI.okb {n p : Nat} {a b : List Int} (h : FI n p a b) : RhyOk n b :=
  ⟨h.oka.1, h.inc.1, fun x hx => by have := h.inc.2 x hx; have := h.pn; omega⟩
theorem FI.blen {n p : Nat} {a b : List Int} (h : FI n p a b) : b.length ≤ p := inc_len h.inc.1 h.inc.2
def TileP (n : Nat) (a : List Int) (r : Int × List Int) : Prop := r.1 = n ∧ TilOk n a r.2 ∧ r.2[0]? = some 0
theorem FI.hit {n p : Nat} {a b : List Int} (h : FI n p a b) (hm : a.length * b.length = n) : TileP n a ((n : Int), b) := by
  have hn : 1 ≤ n := by have := h.oka.1.1; omega
  refine ⟨rfl, ⟨h.oka, h.okb, hm, le1_full hn h.oka.len h.okb.len hm h.le1⟩, ?_⟩
  rcases h.st with ⟨_, e⟩ | ⟨_, e⟩
  · subst e; simp at hm; omega
  · exact e
theorem FI.lt {n p q : Nat} {a b : List Int} (h : FI n p a b) (hq : q = n / a.length) (hm : ¬ a.length * b.length = n) (hc : ¬ ((b.length : Int) + n - p < q)) : p < n := by
  have hn : 1 ≤ n := by have := h.oka.1.1; omega
  have hs := sum_scL hn a b
  have hle := sum_le1 _ h.le1
  rw [(few_scL n a b h.oka.len h.okb.len).len, hs, ← Int.natCast_mul] at hle
  have hd : a.length * q = n := by rw [hq]; exact Nat.mul_div_cancel' (Nat.dvd_of_mod_eq_zero h.dv)
  have hlt : b.length < q := by
    rcases Nat.lt_or_ge b.length q with h1 | h1
    · exact h1
    · have := Nat.mul_le_mul_left a.length h1
      exact absurd (by omega) hm
  have := h.pn
  omega
theorem FI.take {n p : Nat} {a b : List Int} (h : FI n p a b) (hp : p < n) (hl : Le1 n a (b ++ [(p : Int)])) : FI n (p + 1) a (b ++ [(p : Int)]) := by
  have hi : Inc (b ++ [(p : Int)]) := by
    unfold Inc
    rw [List.pairwise_append]
    refine ⟨h.inc.1, by simp, fun x hx y hy => ?_⟩
    simp at hy; subst hy
    exact (h.inc.2 x hx).2
  refine ⟨h.oka, h.n12, h.ka, h.dv, ⟨hi, fun x hx => ?_⟩, by omega, .inr ⟨by omega, ?_⟩, hl⟩
  · rcases List.mem_append.1 hx with h' | h'
    · have := h.inc.2 x h'; omega
    · simp at h'; subst h'; omega
  · rcases h.st with ⟨e1, e2⟩ | ⟨e1, e2⟩
    · subst e1; subst e2; rfl
    · rw [List.getElem?_append_left (by have := (List.getElem?_eq_some_iff.1 e2).1; exact this)]; exact e2
theorem FI.okx {n p : Nat} {a b : List Int} (h : FI n p a b) (hp : p < n) : RhyOk n (b ++ [(p : Int)]) := by
  refine ⟨h.oka.1, ?_, fun x hx => ?_⟩
  · unfold Inc
    rw [List.pairwise_append]
    refine ⟨h.inc.1, by simp, fun x hx y hy => ?_⟩
    simp at hy; subst hy
    exact (h.inc.2 x hx).2
  · rcases List.mem_append.1 hx with h' | h'
    · have := h.inc.2 x h'; omega
    · simp at h'; subst h'; omega
theorem FI.skip {n p : Nat} {a b : List Int} (h : FI n p a b) (h1 : 1 ≤ p) (hp : p < n) : FI n (p + 1) a b := by
  refine ⟨h.oka, h.n12, h.ka, h.dv, ⟨h.inc.1, fun x hx => by have := h.inc.2 x hx; omega⟩, by omega, .inr ⟨by omega, ?_⟩, h.le1⟩
  rcases h.st with ⟨e1, _⟩ | ⟨_, e2⟩
  · omega
  · exact e2
theorem FI.start {n : Nat} {a : List Int} (h : RhyOk n a) (h1 : n ≤ 12) (h2 : 1 ≤ a.length) (h3 : n % a.length = 0) : FI n 0 a [] :=
  ⟨h, h1, h2, h3, ⟨by simp [Inc], fun x hx => by simp at hx⟩, Nat.zero_le _, .inl ⟨rfl, rfl⟩, le1_nil n a⟩
set_option maxRecDepth 100000 in
set_option maxHeartbeats 1000000 in
theorem l09Between_c (n : Nat) (l r : List Int) (v u : Value) (w : World) (hv : Ints w v l) (hu : Ints w u r) (h1 : RhyOk n l) (h2 : RhyOk n r) : Calls Tryz.prog 64 #[.agg #[.int .i64 n, v], .agg #[.int .i64 n, u], .int .i64 0, .int .i64 1] w (RB (Le1 n l r) w) := by
  have hs : sameOk n n l r := ⟨h1, h2, rfl⟩
  have Hs := Lib.hid hs
  have hn := h1.1
  have HL := Lib.hid h1.2.2
  have HR := Lib.hid h2.2.2
  have Hl24 := Lib.hid h1.len
  have Hr24 := Lib.hid h2.len
  have hfew := few_scL n l r h1.len h2.len
  have Hlen := Lib.hid hfew.len
  have Hfew := Lib.hid hfew
  clear hs h1 h2 hfew
  obtain ⟨A, c, hve, _, _⟩ := hv.form0
  obtain ⟨A', c', hue, _, _⟩ := hu.form0
  obtain ⟨k, hk⟩ : ∃ k, k = l.length := ⟨_, rfl⟩
  obtain ⟨k', hk'⟩ : ∃ k', k' = r.length := ⟨_, rfl⟩
  rw [← hk] at hve
  rw [← hk'] at hue
  subst hve
  subst hue
  have hx := two_boxes w (.cells #[.int .i64 (n : Int), .slice A k c] 25) (.cells #[.int .i64 (n : Int), .slice A' k' c'] 25)
  have ha := (RVar.new (T := 25) w (n : Int) (.slice A k c)).ext (one_box _ (.cells #[.int .i64 (n : Int), .slice A' k' c'] 25))
  have hb : RVar ((w.alloc (.cells #[.int .i64 (n : Int), .slice A k c] 25)).alloc (.cells #[.int .i64 (n : Int), .slice A' k' c'] 25)) (w.heap.size + 1) (n : Int) (.slice A' k' c') := by
    simpa only [World.size_alloc] using RVar.new (T := 25) (w.alloc (.cells #[.int .i64 (n : Int), .slice A k c] 25)) (n : Int) (.slice A' k' c')
  have Hv := Lib.hid (hv.ext hx)
  have Hu := Lib.hid (hu.ext hx)
  have Hx := Lib.hid hx
  have Ha := Lib.hid ha
  have Hb := Lib.hid hb
  clear hv hu hx hk hk' ha hb
  have ha0 := Ha.out.c0
  have ha1 := Ha.out.c1
  have hb0 := Hb.out.c0
  have hb1 := Hb.out.c1
  go_enter Tryz.func64, Tryz.ntmps64
  go_wp2_with (first | (go_at_call 72; refine (l05Two_c (n : Int) (n : Int) l r _ _ _ Hv.out Hu.out).mono ?_; rintro e w2 ⟨b2, rfl, hb2, hx2⟩; (obtain rfl := hb2.2 Hs.out; clear hb2; have hd0 := (Ha.out.ext hx2).c0; have hd1 := (Ha.out.ext hx2).c1; have hd2 := (Hb.out.ext hx2).c0; have hd3 := (Hb.out.ext hx2).c1)) | (go_at_call 73; refine (l09Counts_c n l r _ _ _ (Hv.out.ext hx2) (Hu.out.ext hx2) (by omega) HL.out HR.out Hl24.out Hr24.out).mono ?_; rintro e w3 ⟨v3, rfl, ho3, hx3⟩; obtain ⟨g3, c3, hv3, _, _, _, hcell, _⟩ := ho3.shape (by rw [Hlen.out]; omega); rw [Hlen.out] at hv3; subst hv3; have Hcell := Lib.hid hcell; clear hcell))
  have HX3 := Lib.hid (Hx.out.tr (hx2.tr hx3))
  clear ha0 ha1 hb0 hb1 hd0 hd1 hd2 hd3
  go_loopw [19] (fun i wr => ∃ j : Nat, j ≤ n ∧ i = .int .i64 j ∧ wr = w3 ∧ Hid (∀ (m : Nat) (x : Int), m < j → (scL n l r)[m]? = some x → x ≤ 1)) (fun i _ => n - (intOf i).toNat)
  case atStart => exact ⟨0, Nat.zero_le _, rfl, rfl, fun m x hm => by omega⟩
  case round =>
    obtain ⟨j, hj, rfl, rfl, hall⟩ := hrel
    by_cases hjn : j < n
    · have hx := get_of_lt (l := scL n l r) (k := j) (by rw [Hlen.out]; exact hjn)
      have hc := Hcell.out j _ hx
      have hji : (j : Int) < (n : Int) := by omega
      have hr0 := Hfew.out.le j _ hx
      obtain ⟨x, hxe⟩ : ∃ x, x = (scL n l r).getD j 0 := ⟨_, rfl⟩
      rw [← hxe] at hc hx hr0
      have Hgx := Lib.hid hx
      clear hx hxe
      by_cases h1 : x ≤ 1
      · go_wp2_with (first | (go_at_call 63; refine (l01In_t _ ?_).mono ?_; (focus omega); rintro e w1 ⟨rfl, rfl⟩))
        go_roundw
        case rel => exact ⟨j + 1, by omega, by go_num, by first | rfl | trivial, fun m y hm hy => by
          rcases Nat.lt_or_ge m j with h' | h'
          · exact hall.out m y h' hy
          · obtain rfl : m = j := by omega
            rw [Hgx.out] at hy; injection hy with hy; omega⟩
        case measure => simp [intOf]; omega
      · go_wp2_with (first | (go_at_call 63; refine (l01In_f _ ?_).mono ?_; (focus omega); rintro e w1 ⟨rfl, rfl⟩))
        go_ret
        exact RB.f (fun hh => by have := hh x (List.mem_of_getElem? Hgx.out); omega) HX3.out
    · obtain rfl : j = n := by omega
      go_wp2
      go_ret
      refine RB.t (fun x hx => ?_) HX3.out
      obtain ⟨m, hm, hme⟩ := List.getElem_of_mem hx
      exact hall.out m x (by rw [← Hlen.out]; exact hm) (by rw [List.getElem?_eq_getElem hm, hme])
end Go.Proofs.YtjecdmlojgmbeaaGreatDoor
