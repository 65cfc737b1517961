/- Contracts: sumCounts, sum, tilesWith, IsTiling. -/
import Derived.Test.YtjecdmlojgmbeaaGreatDoorFsam
import Derived.Test.YtjecdmlojgmbeaaGreatDoorFof
namespace Go.Proofs.YtjecdmlojgmbeaaGreatDoor
open Go.RowKit
/-- one more at place k -/
def bmp (a : List Int) (k : Nat) : List Int := a.set k (a.getD k 0 + 1)
/-- the counts of the sums, of p with r's elements -/
def scIn (n : Nat) (p : Int) (a r : List Int) : List Int := r.foldl (fun a q => bmp a ((p + q) % (n : Int)).toNat) a
def scL (n : Nat) (l r : List Int) : List Int := l.foldl (fun a p => scIn n p a r) (List.replicate n 0)
structure Few (n N : Nat) (a : List Int) : Prop where
  len : a.length = n
  le : ∀ (k : Nat) (x : Int), a[k]? = some x → 0 ≤ x ∧ x ≤ N
theorem Few.mono {n N M : Nat} {a : List Int} (h : Few n N a) (hm : N ≤ M) : Few n M a := ⟨h.1, fun k x hx => by have := h.2 k x hx; omega⟩
theorem Few.bmp {n N : Nat} {a : List Int} (h : Few n N a) (k : Nat) : Few n (N + 1) (bmp a k) := by
  refine ⟨by unfold Proofs.YtjecdmlojgmbeaaGreatDoor.bmp; rw [List.length_set]; exact h.1, fun j x hx => ?_⟩
  unfold Proofs.YtjecdmlojgmbeaaGreatDoor.bmp at hx
  rw [List.getElem?_set] at hx
  split at hx
  · split at hx
    · rename_i h1 h2
      injection hx with hx
      subst h1
      have hg : a[k]? = some (a.getD k 0) := by simp [List.getElem?_eq_getElem h2]
      have := h.2 _ _ hg
      omega
    · cases hx
  · have := h.2 _ _ hx; omega
theorem Few.inn {n : Nat} {p : Int} (r : List Int) : ∀ {N : Nat} {a : List Int}, Few n N a → Few n (N + r.length) (scIn n p a r) := by
  induction r with
  | nil => intro N a h; exact h
  | cons q r ih =>
    intro N a h
    have := ih (h.bmp ((p + q) % (n : Int)).toNat)
    rw [List.length_cons, show N + (r.length + 1) = N + 1 + r.length by omega]
    exact this
theorem few_sc {n : Nat} (r : List Int) : ∀ (l : List Int) {N : Nat} {a : List Int}, Few n N a → Few n (N + l.length * r.length) (l.foldl (fun a p => scIn n p a r) a) := by
  intro l
  induction l with
  | nil => intro N a h; simpa using h
  | cons p l ih =>
    intro N a h
    have := ih (h.inn (p := p) r)
    rw [List.length_cons, show N + (l.length + 1) * r.length = N + r.length + l.length * r.length by rw [Nat.add_mul]; omega]
    exact this
theorem few_scL (n : Nat) (l r : List Int) (h1 : l.length ≤ 24) (h2 : r.length ≤ 24) : Few n 576 (scL n l r) := by
  have h0 : Few n 0 (List.replicate n (0 : Int)) := ⟨List.length_replicate, fun k x hx => by
    rw [List.getElem?_replicate] at hx
    split at hx
    · injection hx with hx; omega
    · cases hx⟩
  have h := few_sc r l h0
  have : l.length * r.length ≤ 24 * 24 := Nat.mul_le_mul h1 h2
  exact h.mono (by omega)
theorem scL_take {n : Nat} {l r : List Int} {k : Nat} {p : Int} (h : l[k]? = some p) : scL n (l.take (k + 1)) r = scIn n p (scL n (l.take k) r) r := by
  unfold scL; rw [take_succ h, List.foldl_append]; rfl
theorem scIn_take {n : Nat} {a r : List Int} {p : Int} {k : Nat} {q : Int} (h : r[k]? = some q) : scIn n p a (r.take (k + 1)) = bmp (scIn n p a (r.take k)) ((p + q) % (n : Int)).toNat := by
  unfold scIn; rw [take_succ h, List.foldl_append]; rfl
set_option maxRecDepth 100000 in
set_option maxHeartbeats 1000000 in
theorem sumCounts_c (n : Nat) (l r : List Int) (v u : Value) (w : World) (hv : Ints w v l) (hu : Ints w u r) (hn : 1 ≤ n ∧ n ≤ 24) (hl : ∀ x ∈ l, 0 ≤ x ∧ x < n) (hr : ∀ x ∈ r, 0 ≤ x ∧ x < n) (hll : l.length ≤ 24) (hrl : r.length ≤ 24) : Calls Tryz.prog 29 #[.agg #[.int .i64 n, v], .agg #[.int .i64 n, u]] w (RL (scL n l r) w) := by
  have Hl := Lib.hid hl
  have Hr := Lib.hid hr
  clear hl hr
  obtain ⟨A, c, hve, _, _⟩ := hv.form0
  obtain ⟨A', c', hue, _, _⟩ := hu.form0
  obtain ⟨k, hk⟩ : ∃ k, k = l.length := ⟨_, rfl⟩
  obtain ⟨k', hk'⟩ : ∃ k', k' = r.length := ⟨_, rfl⟩
  rw [← hk] at hve
  rw [← hk'] at hue
  subst hve
  subst hue
  have hx := two_boxes w (.cells #[.int .i64 (n : Int), .slice A k c] 25) (.cells #[.int .i64 (n : Int), .slice A' k' c'] 25)
  have ha := (RVar.new (T := 25) w (n : Int) (.slice A k c)).ext (one_box _ (.cells #[.int .i64 (n : Int), .slice A' k' c'] 25))
  have hb : RVar ((w.alloc (.cells #[.int .i64 (n : Int), .slice A k c] 25)).alloc (.cells #[.int .i64 (n : Int), .slice A' k' c'] 25)) (w.heap.size + 1) (n : Int) (.slice A' k' c') := by
    simpa only [World.size_alloc] using RVar.new (T := 25) (w.alloc (.cells #[.int .i64 (n : Int), .slice A k c] 25)) (n : Int) (.slice A' k' c')
  have Hv := Lib.hid (hv.ext hx)
  have Hu := Lib.hid (hu.ext hx)
  have Hx := Lib.hid hx
  have Ha := Lib.hid ha
  have Hb := Lib.hid hb
  clear hv hu hx hk hk' ha hb
  have hk : k = l.length := by obtain ⟨_, _, h, _, _⟩ := Hv.out.form0; simp only [Value.slice.injEq] at h; exact h.2.1
  have hk' : k' = r.length := by obtain ⟨_, _, h, _, _⟩ := Hu.out.form0; simp only [Value.slice.injEq] at h; exact h.2.1
  have hkk : k ≤ 24 ∧ k' ≤ 24 := by omega
  have Hk := Lib.hid hk
  have Hk' := Lib.hid hk'
  have Hll := Lib.hid hll
  have Hrl := Lib.hid hrl
  clear hk hk' hll hrl
  have ha0 := Ha.out.c0
  have hni : (1 : Int) ≤ (n : Int) := by omega
  go_enter Tryz.func29, Tryz.ntmps29
  go_wp2_with (first | (at_make; refine wp_make1 rfl (.tmp 11) rfl n rfl (by omega) (Nat.le_refl _) ?_; intro w1 hown1 hx1; have ha1 := (Ha.out.ext hx1).c1))
  go_loopw [16] (fun i wr => ∃ j : Nat, j ≤ k ∧ i = .int .i64 j ∧ Hid (Own wr (w.heap.size + 2) (.slice (some ⟨w.heap.size + 1 + 1, 0, none⟩) n n) (scL n (l.take j) r) ∧ Ext ((w.alloc (.cells #[.int .i64 (n : Int), .slice A k c] 25)).alloc (.cells #[.int .i64 (n : Int), .slice A' k' c'] 25)) wr)) (fun i _ => k - (intOf i).toNat)
  case atStart => exact ⟨0, Nat.zero_le _, rfl, by simpa [scL, Nat.add_assoc] using hown1, hx1⟩
  case round =>
    clear hown1 ha1
    obtain ⟨j, hj, rfl, hh⟩ := hrel
    by_cases hjk : j < k
    · obtain ⟨p0, hp⟩ : ∃ p, l[j]? = some p := ⟨_, List.getElem?_eq_getElem (by rw [← Hk.out]; exact hjk)⟩
      have hpr := Hl.out p0 (List.mem_of_getElem? hp)
      obtain ⟨p, rfl⟩ := Int.eq_ofNat_of_zero_le hpr.1
      have hvx := Hv.out.ext hh.out.2
      obtain ⟨ad, c2, hA, _, _⟩ := hvx.form (by rw [← Hk.out]; omega)
      obtain ⟨rfl, rfl⟩ : A = some ad ∧ c = c2 := by simp only [Value.slice.injEq] at hA; exact ⟨hA.1, hA.2.2⟩
      have hcp := hvx.cell hp
      have hb1 := (Hb.out.ext hh.out.2).c1
      have hjki : (j : Int) < (k : Int) := by omega
      have Hst := Lib.hid (scL_take (n := n) (r := r) hp)
      have Hfew := Lib.hid (few_scL n (l.take j) r (by rw [List.length_take]; have := Hll.out; omega) Hrl.out)
      clear hp hvx hA
      obtain ⟨a, ha⟩ : ∃ a, a = scL n (l.take j) r := ⟨_, rfl⟩
      rw [← ha] at hh Hst Hfew
      have Hstart : Hid (Own wr (w.heap.size + 2) (.slice (some ⟨w.heap.size + 1 + 1, 0, none⟩) n n) (scIn n p a (r.take 0)) ∧ Ext ((w.alloc (.cells #[.int .i64 (n : Int), .slice (some ad) k c] 25)).alloc (.cells #[.int .i64 (n : Int), .slice A' k' c'] 25)) wr) := hh.out
      clear hh ha
      go_wp2
      go_loopw [23] (fun i wr => ∃ m : Nat, m ≤ k' ∧ i = .int .i64 m ∧ Hid (Own wr (w.heap.size + 2) (.slice (some ⟨w.heap.size + 1 + 1, 0, none⟩) n n) (scIn n p a (r.take m)) ∧ Ext ((w.alloc (.cells #[.int .i64 (n : Int), .slice (some ad) k c] 25)).alloc (.cells #[.int .i64 (n : Int), .slice A' k' c'] 25)) wr)) (fun i _ => k' - (intOf i).toNat)
      case atStart => exact ⟨0, Nat.zero_le _, rfl, Hstart.out⟩
      case round =>
        clear Hstart
        obtain ⟨m, hm, rfl, hh⟩ := hrel
        by_cases hmk : m < k'
        · obtain ⟨q0, hq⟩ : ∃ q, r[m]? = some q := ⟨_, List.getElem?_eq_getElem (by rw [← Hk'.out]; exact hmk)⟩
          have hqr := Hr.out q0 (List.mem_of_getElem? hq)
          obtain ⟨q, rfl⟩ := Int.eq_ofNat_of_zero_le hqr.1
          have hux := Hu.out.ext hh.out.2
          obtain ⟨ad', c2, hA, _, _⟩ := hux.form (by rw [← Hk'.out]; omega)
          obtain ⟨rfl, rfl⟩ : A' = some ad' ∧ c' = c2 := by simp only [Value.slice.injEq] at hA; exact ⟨hA.1, hA.2.2⟩
          have hcq := hux.cell hq
          have hmki : (m : Int) < (k' : Int) := by omega
          have hnn := (Ha.out.ext hh.out.2).c0
          have Hst2 := Lib.hid (scIn_take (n := n) (a := a) (p := p) hq)
          have Hfew2 := Lib.hid (Hfew.out.inn (p := p) (r.take m))
          obtain ⟨z, hz⟩ := Int.eq_ofNat_of_zero_le (show 0 ≤ ((p : Int) + (q : Int)) % (n : Int) from Int.emod_nonneg _ (by omega))
          have hzn : z < n := by have := Int.emod_lt_of_pos ((p : Int) + (q : Int)) (show (0 : Int) < n by omega); omega
          rw [hz, Int.toNat_natCast] at Hst2
          obtain ⟨b, hb⟩ : ∃ b, b = scIn n p a (r.take m) := ⟨_, rfl⟩
          rw [← hb] at hh Hst2 Hfew2
          have hbz : b[z]? = some (b.getD z 0) := get_of_lt (by rw [Hfew2.out.len]; exact hzn)
          obtain ⟨y, hy⟩ : ∃ y, y = b.getD z 0 := ⟨_, rfl⟩
          rw [← hy] at hbz
          have hyb := Hfew2.out.le z y hbz
          have hyb2 : y ≤ 600 := by have : (r.take m).length ≤ 24 := by rw [List.length_take]; omega
                                    omega
          have hcy := hh.out.1.cell hbz
          have hfy := hh.out.1.free z
          have hst := hh.out.1.stored z (x := y + 1) (by unfold I64; omega)
          rw [show b.set z (y + 1) = bmp b z by unfold bmp; rw [← hy], ← Hst2.out] at hst
          have Hst3 := Lib.hid hst
          have hzi : (z : Int) < (n : Int) := by omega
          have hpq : (0 : Int) ≤ (p : Int) + (q : Int) := by omega
          clear hq hux hA hb hy hbz hst
          go_wp2
          go_roundw
          case rel => exact ⟨m + 1, by omega, by go_num, Hst3.out.1, hh.out.2.setCell (by simp) _⟩
          case measure => simp [intOf]; omega
        · obtain rfl : m = k' := by omega
          have ht : Hid (r.take m = r) := List.take_of_length_le (by rw [← Hk'.out]; exact Nat.le_refl _)
          have H0 := hh.out
          rw [ht.out, ← Hst.out] at H0
          have H1 := Lib.hid H0
          clear H0
          go_wp2
          go_roundw
          case rel => exact ⟨j + 1, by omega, by go_num, H1.out⟩
          case measure => simp [intOf]; omega
    · obtain rfl : j = k := by omega
      have ht : Hid (l.take j = l) := List.take_of_length_le (by rw [← Hk.out]; exact Nat.le_refl _)
      go_wp2
      go_ret
      exact ⟨_, rfl, by have := hh.out.1.base (B' := w.heap.size) (by omega); rw [ht.out] at this; exact this, Hx.out.tr hh.out.2⟩
set_option maxRecDepth 100000 in
set_option maxHeartbeats 1000000 in
theorem l09Counts_c (n : Nat) (l r : List Int) (v u : Value) (w : World) (hv : Ints w v l) (hu : Ints w u r) (hn : 1 ≤ n ∧ n ≤ 24) (hl : ∀ x ∈ l, 0 ≤ x ∧ x < n) (hr : ∀ x ∈ r, 0 ≤ x ∧ x < n) (hll : l.length ≤ 24) (hrl : r.length ≤ 24) : Calls Tryz.prog 73 #[.agg #[.int .i64 n, v], .agg #[.int .i64 n, u]] w (RL (scL n l r) w) := by
  have Hl := Lib.hid hl
  have Hr := Lib.hid hr
  clear hl hr
  obtain ⟨A, c, hve, _, _⟩ := hv.form0
  obtain ⟨A', c', hue, _, _⟩ := hu.form0
  obtain ⟨k, hk⟩ : ∃ k, k = l.length := ⟨_, rfl⟩
  obtain ⟨k', hk'⟩ : ∃ k', k' = r.length := ⟨_, rfl⟩
  rw [← hk] at hve
  rw [← hk'] at hue
  subst hve
  subst hue
  have hx := two_boxes w (.cells #[.int .i64 (n : Int), .slice A k c] 25) (.cells #[.int .i64 (n : Int), .slice A' k' c'] 25)
  have ha := (RVar.new (T := 25) w (n : Int) (.slice A k c)).ext (one_box _ (.cells #[.int .i64 (n : Int), .slice A' k' c'] 25))
  have hb : RVar ((w.alloc (.cells #[.int .i64 (n : Int), .slice A k c] 25)).alloc (.cells #[.int .i64 (n : Int), .slice A' k' c'] 25)) (w.heap.size + 1) (n : Int) (.slice A' k' c') := by
    simpa only [World.size_alloc] using RVar.new (T := 25) (w.alloc (.cells #[.int .i64 (n : Int), .slice A k c] 25)) (n : Int) (.slice A' k' c')
  have Hv := Lib.hid (hv.ext hx)
  have Hu := Lib.hid (hu.ext hx)
  have Hx := Lib.hid hx
  have Ha := Lib.hid ha
  have Hb := Lib.hid hb
  clear hv hu hx hk hk' ha hb
  have hk : k = l.length := by obtain ⟨_, _, h, _, _⟩ := Hv.out.form0; simp only [Value.slice.injEq] at h; exact h.2.1
  have hk' : k' = r.length := by obtain ⟨_, _, h, _, _⟩ := Hu.out.form0; simp only [Value.slice.injEq] at h; exact h.2.1
  have hkk : k ≤ 24 ∧ k' ≤ 24 := by omega
  have Hk := Lib.hid hk
  have Hk' := Lib.hid hk'
  have Hll := Lib.hid hll
  have Hrl := Lib.hid hrl
  clear hk hk' hll hrl
  have ha0 := Ha.out.c0
  have hni : (1 : Int) ≤ (n : Int) := by omega
  go_enter Tryz.func73, Tryz.ntmps73
  go_wp2_with (first | (at_make; refine wp_make1 rfl (.tmp 11) rfl n rfl (by omega) (Nat.le_refl _) ?_; intro w1 hown1 hx1; have ha1 := (Ha.out.ext hx1).c1))
  go_loopw [16] (fun i wr => ∃ j : Nat, j ≤ k ∧ i = .int .i64 j ∧ Hid (Own wr (w.heap.size + 2) (.slice (some ⟨w.heap.size + 1 + 1, 0, none⟩) n n) (scL n (l.take j) r) ∧ Ext ((w.alloc (.cells #[.int .i64 (n : Int), .slice A k c] 25)).alloc (.cells #[.int .i64 (n : Int), .slice A' k' c'] 25)) wr)) (fun i _ => k - (intOf i).toNat)
  case atStart => exact ⟨0, Nat.zero_le _, rfl, by simpa [scL, Nat.add_assoc] using hown1, hx1⟩
  case round =>
    clear hown1 ha1
    obtain ⟨j, hj, rfl, hh⟩ := hrel
    by_cases hjk : j < k
    · obtain ⟨p0, hp⟩ : ∃ p, l[j]? = some p := ⟨_, List.getElem?_eq_getElem (by rw [← Hk.out]; exact hjk)⟩
      have hpr := Hl.out p0 (List.mem_of_getElem? hp)
      obtain ⟨p, rfl⟩ := Int.eq_ofNat_of_zero_le hpr.1
      have hvx := Hv.out.ext hh.out.2
      obtain ⟨ad, c2, hA, _, _⟩ := hvx.form (by rw [← Hk.out]; omega)
      obtain ⟨rfl, rfl⟩ : A = some ad ∧ c = c2 := by simp only [Value.slice.injEq] at hA; exact ⟨hA.1, hA.2.2⟩
      have hcp := hvx.cell hp
      have hb1 := (Hb.out.ext hh.out.2).c1
      have hjki : (j : Int) < (k : Int) := by omega
      have Hst := Lib.hid (scL_take (n := n) (r := r) hp)
      have Hfew := Lib.hid (few_scL n (l.take j) r (by rw [List.length_take]; have := Hll.out; omega) Hrl.out)
      clear hp hvx hA
      obtain ⟨a, ha⟩ : ∃ a, a = scL n (l.take j) r := ⟨_, rfl⟩
      rw [← ha] at hh Hst Hfew
      have Hstart : Hid (Own wr (w.heap.size + 2) (.slice (some ⟨w.heap.size + 1 + 1, 0, none⟩) n n) (scIn n p a (r.take 0)) ∧ Ext ((w.alloc (.cells #[.int .i64 (n : Int), .slice (some ad) k c] 25)).alloc (.cells #[.int .i64 (n : Int), .slice A' k' c'] 25)) wr) := hh.out
      clear hh ha
      go_wp2
      go_loopw [23] (fun i wr => ∃ m : Nat, m ≤ k' ∧ i = .int .i64 m ∧ Hid (Own wr (w.heap.size + 2) (.slice (some ⟨w.heap.size + 1 + 1, 0, none⟩) n n) (scIn n p a (r.take m)) ∧ Ext ((w.alloc (.cells #[.int .i64 (n : Int), .slice (some ad) k c] 25)).alloc (.cells #[.int .i64 (n : Int), .slice A' k' c'] 25)) wr)) (fun i _ => k' - (intOf i).toNat)
      case atStart => exact ⟨0, Nat.zero_le _, rfl, Hstart.out⟩
      case round =>
        clear Hstart
        obtain ⟨m, hm, rfl, hh⟩ := hrel
        by_cases hmk : m < k'
        · obtain ⟨q0, hq⟩ : ∃ q, r[m]? = some q := ⟨_, List.getElem?_eq_getElem (by rw [← Hk'.out]; exact hmk)⟩
          have hqr := Hr.out q0 (List.mem_of_getElem? hq)
          obtain ⟨q, rfl⟩ := Int.eq_ofNat_of_zero_le hqr.1
          have hux := Hu.out.ext hh.out.2
          obtain ⟨ad', c2, hA, _, _⟩ := hux.form (by rw [← Hk'.out]; omega)
          obtain ⟨rfl, rfl⟩ : A' = some ad' ∧ c' = c2 := by simp only [Value.slice.injEq] at hA; exact ⟨hA.1, hA.2.2⟩
          have hcq := hux.cell hq
          have hmki : (m : Int) < (k' : Int) := by omega
          have hnn := (Ha.out.ext hh.out.2).c0
          have Hst2 := Lib.hid (scIn_take (n := n) (a := a) (p := p) hq)
          have Hfew2 := Lib.hid (Hfew.out.inn (p := p) (r.take m))
          obtain ⟨z, hz⟩ := Int.eq_ofNat_of_zero_le (show 0 ≤ ((p : Int) + (q : Int)) % (n : Int) from Int.emod_nonneg _ (by omega))
          have hzn : z < n := by have := Int.emod_lt_of_pos ((p : Int) + (q : Int)) (show (0 : Int) < n by omega); omega
          rw [hz, Int.toNat_natCast] at Hst2
          obtain ⟨b, hb⟩ : ∃ b, b = scIn n p a (r.take m) := ⟨_, rfl⟩
          rw [← hb] at hh Hst2 Hfew2
          have hbz : b[z]? = some (b.getD z 0) := get_of_lt (by rw [Hfew2.out.len]; exact hzn)
          obtain ⟨y, hy⟩ : ∃ y, y = b.getD z 0 := ⟨_, rfl⟩
          rw [← hy] at hbz
          have hyb := Hfew2.out.le z y hbz
          have hyb2 : y ≤ 600 := by have : (r.take m).length ≤ 24 := by rw [List.length_take]; omega
                                    omega
          have hcy := hh.out.1.cell hbz
          have hfy := hh.out.1.free z
          have hst := hh.out.1.stored z (x := y + 1) (by unfold I64; omega)
          rw [show b.set z (y + 1) = bmp b z by unfold bmp; rw [← hy], ← Hst2.out] at hst
          have Hst3 := Lib.hid hst
          have hzi : (z : Int) < (n : Int) := by omega
          have hpq : (0 : Int) ≤ (p : Int) + (q : Int) := by omega
          clear hq hux hA hb hy hbz hst
          go_wp2
          go_roundw
          case rel => exact ⟨m + 1, by omega, by go_num, Hst3.out.1, hh.out.2.setCell (by simp) _⟩
          case measure => simp [intOf]; omega
        · obtain rfl : m = k' := by omega
          have ht : Hid (r.take m = r) := List.take_of_length_le (by rw [← Hk'.out]; exact Nat.le_refl _)
          have H0 := hh.out
          rw [ht.out, ← Hst.out] at H0
          have H1 := Lib.hid H0
          clear H0
          go_wp2
          go_roundw
          case rel => exact ⟨j + 1, by omega, by go_num, H1.out⟩
          case measure => simp [intOf]; omega
    · obtain rfl : j = k := by omega
      have ht : Hid (l.take j = l) := List.take_of_length_le (by rw [← Hk.out]; exact Nat.le_refl _)
      go_wp2
      go_ret
      exact ⟨_, rfl, by have := hh.out.1.base (B' := w.heap.size) (by omega); rw [ht.out] at this; exact this, Hx.out.tr hh.out.2⟩
/-- the pulses that have a count -/
def posL (n : Nat) (a : List Int) : List Int := (rng n).filter fun p => decide (0 < a.getD p.toNat 0)
theorem posL_t {k : Nat} {a : List Int} (h : 0 < a.getD k 0) : posL (k + 1) a = posL k a ++ [(k : Int)] := by
  unfold posL; rw [rng_succ, List.filter_append]; simpa [List.filter_cons] using h
theorem posL_f {k : Nat} {a : List Int} (h : ¬ 0 < a.getD k 0) : posL (k + 1) a = posL k a := by
  unfold posL; rw [rng_succ, List.filter_append]; simp [List.filter_cons]; simpa using h
theorem posL_len (k : Nat) (a : List Int) : (posL k a).length ≤ k := by
  unfold posL; exact Nat.le_trans (List.length_filter_le _ _) (Nat.le_of_eq (rng_len k))
structure SF (w wr : World) (n : Int) (u v1 : Value) (L a : List Int) : Prop where
  r0 : RVar wr (w.heap.size + 1 + 1) 0 (.slice none 0 0)
  r1 : RVar wr (w.heap.size + 1 + 1 + 1) n u
  ou : Own wr (w.heap.size + 1 + 1 + 1 + 1) u L
  ov : Own wr (w.heap.size + 1 + 1 + 1 + 1) v1 a
  ap : Apart v1 u
  ex : Ext w wr
theorem SF.app {w wr w' : World} {n : Int} {u u' v1 : Value} {L L' a : List Int} (h : SF w wr n u v1 L a) (ho : Own w' (w.heap.size + 1 + 1 + 1 + 1) u' L') (hg : wr.grownBy w' u.ownBlock)
    (hat : ∀ k, u'.ownBlock = some k → u.ownBlock = some k ∨ wr.heap.size ≤ k) : SF w (w'.setCell ⟨w.heap.size + 1 + 1 + 1, 1, none⟩ u') n u' v1 L' a := by
  refine ⟨(h.r0.kept hg (h.ou.ne_lt (by omega))).other (by omega), (h.r1.kept hg (h.ou.ne_lt (by omega))).set1, ho.other (by omega), (h.ov.kept hg h.ap).other (by omega), h.ap.later (fun k hk => (h.ov.lt k hk).2) hat, (h.ex.mark h.ou hg (by omega)).setCell (by show w.heap.size ≤ w.heap.size + 1 + 1 + 1; omega) _⟩
theorem SF.fin {w wr : World} {n : Int} {u v1 : Value} {L a : List Int} (h : SF w wr n u v1 L a) :
    RVar ((wr.setCell ⟨w.heap.size + 1 + 1, 0, none⟩ (.int .i64 n)).setCell ⟨w.heap.size + 1 + 1, 1, none⟩ u) (w.heap.size + 1 + 1) n u ∧ Own ((wr.setCell ⟨w.heap.size + 1 + 1, 0, none⟩ (.int .i64 n)).setCell ⟨w.heap.size + 1 + 1, 1, none⟩ u) w.heap.size u L ∧ Ext w ((wr.setCell ⟨w.heap.size + 1 + 1, 0, none⟩ (.int .i64 n)).setCell ⟨w.heap.size + 1 + 1, 1, none⟩ u) := by
  refine ⟨h.r0.set0.set1, ((h.ou.other (by omega)).other (by omega)).base (by omega), (h.ex.setCell (by show w.heap.size ≤ w.heap.size + 1 + 1; omega) _).setCell (by show w.heap.size ≤ w.heap.size + 1 + 1; omega) _⟩
theorem Apart.nilT (v : Value) : Apart v (.slice none 0 0) := by
  unfold Apart
  cases h : v.ownBlock with
  | none => exact .inl rfl
  | some g => exact .inr (by simp [Value.ownBlock])
set_option maxRecDepth 100000 in
set_option maxHeartbeats 1000000 in
theorem sumR_c (n : Nat) (l r : List Int) (v u : Value) (w : World) (hv : Ints w v l) (hu : Ints w u r) (hn : 1 ≤ n ∧ n ≤ 24) (hl : ∀ x ∈ l, 0 ≤ x ∧ x < n) (hr : ∀ x ∈ r, 0 ≤ x ∧ x < n) (hll : l.length ≤ 24) (hrl : r.length ≤ 24) : Calls Tryz.prog 44 #[.agg #[.int .i64 n, v], .agg #[.int .i64 n, u]] w (RR n (posL n (scL n l r)) w) := by
  have Hl := Lib.hid hl
  have Hr := Lib.hid hr
  have Hll := Lib.hid hll
  have Hrl := Lib.hid hrl
  have Hfew := Lib.hid (few_scL n l r hll hrl)
  clear hl hr hll hrl
  obtain ⟨A, c, hve, _, _⟩ := hv.form0
  obtain ⟨A', c', hue, _, _⟩ := hu.form0
  obtain ⟨k, hk⟩ : ∃ k, k = l.length := ⟨_, rfl⟩
  obtain ⟨k', hk'⟩ : ∃ k', k' = r.length := ⟨_, rfl⟩
  rw [← hk] at hve
  rw [← hk'] at hue
  subst hve
  subst hue
  have hx := two_boxes w (.cells #[.int .i64 (n : Int), .slice A k c] 25) (.cells #[.int .i64 (n : Int), .slice A' k' c'] 25)
  have ha := (RVar.new (T := 25) w (n : Int) (.slice A k c)).ext (one_box _ (.cells #[.int .i64 (n : Int), .slice A' k' c'] 25))
  have hb : RVar ((w.alloc (.cells #[.int .i64 (n : Int), .slice A k c] 25)).alloc (.cells #[.int .i64 (n : Int), .slice A' k' c'] 25)) (w.heap.size + 1) (n : Int) (.slice A' k' c') := by
    simpa only [World.size_alloc] using RVar.new (T := 25) (w.alloc (.cells #[.int .i64 (n : Int), .slice A k c] 25)) (n : Int) (.slice A' k' c')
  have Hv := Lib.hid (hv.ext hx)
  have Hu := Lib.hid (hu.ext hx)
  have Hx := Lib.hid hx
  have Ha := Lib.hid ha
  have Hb := Lib.hid hb
  clear hv hu hx hk hk' ha hb
  have hz0 := RIn.start ((w.alloc (.cells #[.int .i64 (n : Int), .slice A k c] 25)).alloc (.cells #[.int .i64 (n : Int), .slice A' k' c'] 25)) (n : Int)
  obtain ⟨hz1, hz2, _, hz3⟩ := hz0
  simp only [World.size_alloc] at hz1 hz2
  have Hz1 := Lib.hid hz1
  have Hz2 := Lib.hid hz2
  have Hz3 := Lib.hid hz3
  have hsz : Hid (((((w.alloc (.cells #[.int .i64 (n : Int), .slice A k c] 25)).alloc (.cells #[.int .i64 (n : Int), .slice A' k' c'] 25)).alloc (.cells #[.int .i64 0, .slice none 0 0] 25)).alloc (.cells #[.int .i64 (n : Int), .slice none 0 0] 25)).heap.size = w.heap.size + 1 + 1 + 1 + 1) := by unfold Hid; simp
  clear hz1 hz2 hz3
  have ha0 := (Ha.out.ext Hz3.out).c0
  have ha1 := (Ha.out.ext Hz3.out).c1
  have hb0 := (Hb.out.ext Hz3.out).c0
  have hb1 := (Hb.out.ext Hz3.out).c1
  have ha2 := Ha.out.c0
  have ha3 := (Ha.out.ext (one_box _ (.cells #[.int .i64 0, .slice none 0 0] 25))).c0
  go_enter Tryz.func44, Tryz.ntmps44
  go_wp2_with (first | (go_at_call 29; refine (sumCounts_c n l r _ _ _ (Hv.out.ext Hz3.out) (Hu.out.ext Hz3.out) hn Hl.out Hr.out Hll.out Hrl.out).mono ?_; rintro e w1 ⟨v1, rfl, ho1, hx1⟩; (rw [hsz.out] at ho1; obtain ⟨g, c1, hv1, _, _⟩ := ho1.shape (by rw [Hfew.out.len]; omega); rw [Hfew.out.len] at hv1; subst hv1)))
  obtain ⟨a, ha⟩ : ∃ a, a = scL n l r := ⟨_, rfl⟩
  rw [← ha] at ho1 Hfew
  have Ha' := Lib.hid ha
  have Hst : Hid (SF w w1 n (.slice none 0 0) (.slice (some ⟨g, 0, none⟩) n c1) (posL 0 a) a) := ⟨Hz1.out.ext hx1, Hz2.out.ext hx1, Own.nil _ _, ho1, Apart.nilT _, Hx.out.tr (Hz3.out.tr hx1)⟩
  clear ha ho1 hx1 ha0 ha1 hb0 hb1 ha2 ha3
  go_loopw [15] (fun i wr => ∃ (j : Nat) (u : Value), j ≤ n ∧ i = .int .i64 j ∧ Hid (SF w wr n u (.slice (some ⟨g, 0, none⟩) n c1) (posL j a) a)) (fun i _ => n - (intOf i).toNat)
  case atStart => exact ⟨0, _, Nat.zero_le _, rfl, Hst⟩
  case round =>
    clear Hst
    obtain ⟨j, u, hj, rfl, hh⟩ := hrel
    obtain ⟨Au, nu, cu, rfl⟩ := hh.out.ou.form
    by_cases hjn : j < n
    · have hji : (j : Int) < (n : Int) := by omega
      have hx : a[j]? = some (a.getD j 0) := get_of_lt (by rw [Hfew.out.len]; exact hjn)
      have hcx := hh.out.ov.cell hx
      have hpl := posL_len j a
      have hu1 := hh.out.r1.c1
      have hf1 := hh.out.r1.f 1
      by_cases hp : 0 < a.getD j 0
      · have Hn := Lib.hid (posL_t hp)
        obtain ⟨x, hxe⟩ : ∃ x, x = a.getD j 0 := ⟨_, rfl⟩
        rw [← hxe] at hcx hp
        clear hx hxe
        go_wp2_with (first | (at_builtin; refine wp_append1 rfl (.tmp 23) (.tmp 25) rfl rfl rfl hh.out.ou (by unfold I64; omega) (by omega) (by have := hh.out.r1.lt; omega) ?_; intro v' w' ho hg hb hat; obtain ⟨Av, nv, cv, rfl⟩ := ho.form; rw [← Hn.out] at ho; have Hr2 := Lib.hid (hh.out.app ho hg hat); have hu2 := (hh.out.r1.kept hg (hh.out.ou.ne_lt (by omega))).c1; have hf2 := (hh.out.r1.kept hg (hh.out.ou.ne_lt (by omega))).f 1; clear ho hb))
        go_roundw
        case rel => exact ⟨j + 1, _, by omega, by go_num, Hr2.out⟩
        case measure => simp [intOf]; omega
      · have Hn := Lib.hid (posL_f hp)
        obtain ⟨x, hxe⟩ : ∃ x, x = a.getD j 0 := ⟨_, rfl⟩
        rw [← hxe] at hcx hp
        clear hx hxe
        go_wp2
        go_roundw
        case rel => exact ⟨j + 1, _, by omega, by go_num, by unfold Hid; rw [Hn.out]; exact hh.out⟩
        case measure => simp [intOf]; omega
    · obtain rfl : j = n := by omega
      have hc0 := hh.out.r1.c0
      have hc1 := hh.out.r1.c1
      have hd0 := hh.out.r0.c0
      have hf0 := hh.out.r0.f 0
      have hd1 := (hh.out.r0.set0 (m := (j : Int))).c1
      have hf1 := (hh.out.r0.set0 (m := (j : Int))).f 1
      have Hr3 := Lib.hid hh.out.fin
      go_wp2
      have hcf0 := Hr3.out.1.c0
      have hcf1 := Hr3.out.1.c1
      exact bodyPost_ret (v := .agg #[.int .i64 j, .slice Au nu cu]) (by simp [results, Tryz.results44, hcf0, hcf1, go_sem]) rfl ⟨_, rfl, by rw [← Ha'.out]; exact Hr3.out.2.1, Hr3.out.2.2⟩
/-- two rhythms that tile -/
structure TilOk (n : Nat) (l r : List Int) : Prop where
  okl : RhyOk n l
  okr : RhyOk n r
  mul : l.length * r.length = n
  full : (posL n (scL n l r)).length = n
set_option maxRecDepth 100000 in
set_option maxHeartbeats 1000000 in
theorem tilesWith_t (n : Nat) (l r : List Int) (v u : Value) (w : World) (hv : Ints w v l) (hu : Ints w u r) (h : TilOk n l r) : Calls Tryz.prog 28 #[.agg #[.int .i64 n, v], .agg #[.int .i64 n, u]] w (fun e w' => e = .returned (.bool true) ∧ Ext w w') := by
  have H := Lib.hid h
  have hn1 := h.okl.1
  have hlen1 := h.okl.len
  have hlen2 := h.okr.len
  have hm := h.mul
  clear h
  obtain ⟨A, c, hve, _, _⟩ := hv.form0
  obtain ⟨A', c', hue, _, _⟩ := hu.form0
  obtain ⟨k, hk⟩ : ∃ k, k = l.length := ⟨_, rfl⟩
  obtain ⟨k', hk'⟩ : ∃ k', k' = r.length := ⟨_, rfl⟩
  rw [← hk] at hve
  rw [← hk'] at hue
  subst hve
  subst hue
  have hx := two_boxes w (.cells #[.int .i64 (n : Int), .slice A k c] 25) (.cells #[.int .i64 (n : Int), .slice A' k' c'] 25)
  have ha := (RVar.new (T := 25) w (n : Int) (.slice A k c)).ext (one_box _ (.cells #[.int .i64 (n : Int), .slice A' k' c'] 25))
  have hb : RVar ((w.alloc (.cells #[.int .i64 (n : Int), .slice A k c] 25)).alloc (.cells #[.int .i64 (n : Int), .slice A' k' c'] 25)) (w.heap.size + 1) (n : Int) (.slice A' k' c') := by
    simpa only [World.size_alloc] using RVar.new (T := 25) (w.alloc (.cells #[.int .i64 (n : Int), .slice A k c] 25)) (n : Int) (.slice A' k' c')
  have Hv := Lib.hid (hv.ext hx)
  have Hu := Lib.hid (hu.ext hx)
  have Hx := Lib.hid hx
  have Ha := Lib.hid ha
  have Hb := Lib.hid hb
  clear hv hu hx hk hk' ha hb
  have hk : k = l.length := by obtain ⟨_, _, h, _, _⟩ := Hv.out.form0; simp only [Value.slice.injEq] at h; exact h.2.1
  have hk' : k' = r.length := by obtain ⟨_, _, h, _, _⟩ := Hu.out.form0; simp only [Value.slice.injEq] at h; exact h.2.1
  rw [← hk] at hlen1 hm
  rw [← hk'] at hlen2 hm
  have Hk := Lib.hid hk
  have Hk' := Lib.hid hk'
  have hmi : (k : Int) * (k' : Int) = (n : Int) := by rw [← Int.natCast_mul, hm]
  have hwn : IntKind.i64.wrap (n : Int) = (n : Int) := IntWalk.i64_in _ (by omega)
  have hb' : (((n : Int)) == (n : Int)) = true := by simp
  have ha0 := Ha.out.c0
  have ha1 := Ha.out.c1
  have hb0 := Hb.out.c0
  have hb1 := Hb.out.c1
  clear hk hk' hm
  go_enter Tryz.func28, Tryz.ntmps28
  go_wp2
  first
    | (go_region_held3 (fun w' => w'.cell? ⟨w.heap.size, 0, none⟩ = some (.int .i64 n) ∧ w'.cell? ⟨w.heap.size, 1, none⟩ = some (.slice A k c) ∧ w'.cell? ⟨w.heap.size + 1, 0, none⟩ = some (.int .i64 n) ∧ w'.cell? ⟨w.heap.size + 1, 1, none⟩ = some (.slice A' k' c'))
        (first
          | with_reducible exact ⟨(Ha.out.extD hx1).c0, (Ha.out.extD hx1).c1, (Hb.out.extD hx1).c0, (Hb.out.extD hx1).c1⟩
          | (go_keep; done)
          | (refine ⟨?_, ?_, ?_, ?_⟩ <;> (go_keep; done)))
        (first
          | (go_at_call 44; refine (sumR_c n l r _ _ _ Hv.out.drew Hu.out.drew (by omega) H.out.okl.2.2 H.out.okr.2.2 (by rw [← Hk.out]; exact hlen1) (by rw [← Hk'.out]; exact hlen2)).mono ?_; rintro e w1 ⟨v1, rfl, ho1, hx1⟩; obtain ⟨g, c1, hv1, _, _⟩ := ho1.shape (by rw [H.out.full]; omega); rw [H.out.full] at hv1; subst hv1; have hfl := fld1 (n : Int) (some ⟨g, 0, none⟩) n c1)))
    | fail
  all_goals
    go_wp2
    go_ret
    exact ⟨rfl, Hx.out.tr (Ext.ofD hx1)⟩
end Go.Proofs.YtjecdmlojgmbeaaGreatDoor
