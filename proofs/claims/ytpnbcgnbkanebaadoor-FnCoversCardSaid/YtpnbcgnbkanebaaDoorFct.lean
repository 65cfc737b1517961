/- Contracts: IsCover of the reference; CoverText on both sides. -/
import Derived.Test.YtpnbcgnbkanebaaDoorFtk
import Derived.Test.YtpnbcgnbkanebaaDoorByt
namespace Go.Proofs.YtpnbcgnbkanebaaDoor
open Go.RowKit
/-- the letters of a cover -/
def covT (p : List Int) (n : Int) (l : List Int) : List Int := if patB p = true ∧ 0 ≤ n ∧ n ≤ 24 then (match takO p n.toNat l with | some a => a.map (fun v => 97 + v) | none => []) else []
theorem covT_t {p l a : List Int} {k : Nat} (hp : PatOk p) (hk : k ≤ 24) (h : takO p k l = some a) : covT p k l = a.map (fun v => 97 + v) := by
  unfold covT; rw [if_pos ⟨patB_t hp, by omega, by omega⟩, Int.toNat_natCast, h]
theorem covT_f {p l : List Int} {n : Int} (h : ¬ IsCov p n l) : covT p n l = [] := by
  unfold covT
  split
  · rename_i hc
    have hp := (patB_iff p).1 hc.1
    cases e : takO p n.toNat l with
    | none => rfl
    | some a => exact absurd ⟨hp, hc.2.1, hc.2.2, (cov_iff hp (by omega) l).2 ⟨a, e⟩⟩ h
  · rfl
def RSc (s : List Int) (w : World) (e : Ending) (w' : World) : Prop := e = .returned (.string (strOfNums s)) ∧ Ext w w'
theorem takO_some {p l a : List Int} {n : Nat} (h : takO p n l = some a) : takR p n 0 0 l (List.replicate n (-1)) = some a ∧ ∀ j, j < a.length → 0 ≤ a.getD j (-1) := by
  unfold takO at h
  cases e : takR p n 0 0 l (List.replicate n (-1)) with
  | none => rw [e] at h; cases h
  | some b =>
    rw [e] at h
    simp only at h
    split at h
    · rename_i hc
      cases h
      exact ⟨rfl, all_getD.1 hc⟩
    · cases h
theorem takO_len {p l a : List Int} {n : Nat} (h : takO p n l = some a) : a.length = n := by
  have := takR_len (takO_some h).1
  rwa [List.length_replicate] at this
theorem takR_lt {p : List Int} {n N : Nat} : ∀ {l : List Int} {i : Nat} {prev : Int} {a b : List Int}, takR p n i prev l a = some b → (∀ j, a.getD j (-1) < (N : Int)) → i + l.length ≤ N → ∀ j, b.getD j (-1) < (N : Int) := by
  intro l
  induction l with
  | nil => intro i prev a b h ha _; simp [takR] at h; rw [← h]; exact ha
  | cons x xs ih =>
    intro i prev a b h ha hN
    rw [takR] at h
    rw [List.length_cons] at hN
    split at h
    · split at h
      · cases h
      · rename_i c hc
        refine ih h (fun j => ?_) (by omega)
        rw [layC_get hc]
        by_cases hm : (j : Int) ∈ (if x % 2 = 1 then mirL p else p).map fun y => x / 2 + y
        · rw [if_pos hm]; omega
        · rw [if_neg hm]; exact ha j
    · cases h
theorem cov_elems {p l : List Int} {k : Nat} (hp : PatOk p) (hk : k ≤ 24) (h : l ∈ cvs p k) : l.length ≤ k := by
  have := cv_elems (maskN p) (maskN (mirL p)) k (maskN_odd hp) (maskN_odd (mirL_ok hp)) hk (k + 1) 0 0 l (Nat.zero_le _) (Nat.two_pow_pos _) rfl h
  omega
/-- the takers of a cover are at most 23 -/
theorem tak_range {p l a : List Int} {k : Nat} (hp : PatOk p) (hk : k ≤ 24) (h : takO p k l = some a) {j : Nat} {y : Int} (hy : a[j]? = some y) : 0 ≤ y ∧ y ≤ 23 := by
  have h1 := cov_elems hp hk ((cov_iff hp hk l).2 ⟨a, h⟩)
  obtain ⟨h2, h3⟩ := takO_some h
  have hj := (List.getElem?_eq_some_iff.1 hy).1
  have hg : a.getD j (-1) = y := by simp [List.getD, hy]
  have h4 := h3 j hj
  have h5 := takR_lt (N := 24) h2 (fun j => by
    simp only [List.getD_eq_getElem?_getD, List.getElem?_replicate]
    split <;> simp) (by omega) j
  rw [hg] at h4 h5
  omega
theorem map_take_succ {a : List Int} {j : Nat} {y : Int} (hy : a[j]? = some y) : (a.take (j + 1)).map (fun v => 97 + v) = (a.take j).map (fun v => 97 + v) ++ [97 + y] := by rw [take_succ hy]; simp
/-- the letters while they are laid -/
def txT (a : List Int) : List Int := a.map fun v => if v < 0 then 0 else 97 + v
theorem txT_set (b : List Int) (z : Nat) (i : Nat) : txT (b.set z (i : Int)) = (txT b).set z (97 + (i : Int)) := by
  unfold txT
  rw [List.map_set, if_neg (by omega)]
theorem txT_rep (n : Nat) : txT (List.replicate n (-1)) = List.replicate n 0 := by unfold txT; rw [List.map_replicate]; rfl
theorem txT_all {a : List Int} (h : ∀ j, j < a.length → 0 ≤ a.getD j (-1)) : txT a = a.map fun v => 97 + v := by
  unfold txT
  apply List.map_congr_left
  intro v hv
  obtain ⟨j, hj, rfl⟩ := List.getElem_of_mem hv
  have := h j hj
  rw [List.getD_eq_getElem?_getD, List.getElem?_eq_getElem hj] at this
  rw [if_neg (by simp at this; omega)]
theorem txT_len (a : List Int) : (txT a).length = a.length := by simp [txT]
/-- a row of one byte, just built -/
theorem own_byte1 (w : World) (x : Int) : OwnB (w.alloc (.cells #[.int .u8 x] 5)) w.heap.size (.slice (some ⟨w.heap.size, 0, none⟩) 1 1) [x] := by
  have h := World.ownsRow_lit (e := 5) (size := 1) w #[.int .u8 x] 1 (Nat.le_refl _) (by unfold maxLen; omega) (by simp)
  exact h
set_option maxRecDepth 100000 in
set_option maxHeartbeats 1000000 in
theorem specIsCover_c (p : List Int) (n : Int) (l : List Int) (v u : Value) (w : World) (hv : Ints w v p) (hn : I64 n) (hu : Ints w u l) : Calls Tryd.prog 6 #[v, .int .i64 n, u] w (RB (IsCov p n l) w) := by
  unfold I64 at hn
  have Hv := Lib.hid hv
  have Hu := Lib.hid hu
  clear hv hu
  by_cases hp : PatOk p
  · have Hp := Lib.hid hp
    by_cases hn1 : 0 ≤ n ∧ n ≤ 24
    · obtain ⟨k, rfl⟩ : ∃ k : Nat, n = k := ⟨n.toNat, by omega⟩
      have hk : k ≤ 24 := by omega
      have H : Hid (IsCov p (k : Int) l ↔ ∃ a, takO p k l = some a) := by unfold Hid; rw [IsCov.nat, cov_iff hp hk]; exact ⟨fun h => h.2.2, fun h => ⟨hp, hk, h⟩⟩
      clear hp
      cases ho : takO p k l with
      | none =>
        have Hn : Hid (¬ IsCov p (k : Int) l) := by unfold Hid; rw [H.out, ho]; rintro ⟨a, h⟩; cases h
        have Ho := Lib.hid ho
        clear ho
        go_enter Tryd.func6, Tryd.ntmps6
        go_wp2_with (first | (go_at_call 23; refine (specPatternOk_c p _ _ Hv.out).mono ?_; rintro e w1 ⟨b, rfl, hb, rfl⟩; obtain rfl := hb.2 Hp.out; clear hb) | (go_at_call 24; refine (l01In_t _ ?_).mono ?_; (focus omega); rintro e w1 ⟨rfl, rfl⟩) | (go_at_call 25; refine (l14Taken_c p k l _ _ _ Hv.out Hp.out hk Hu.out).mono ?_; rintro e w2 ⟨hx2, h2⟩; rw [Ho.out] at h2; obtain rfl := h2))
        go_ret
        exact RB.f Hn.out hx2
      | some a =>
        have Hn : Hid (IsCov p (k : Int) l) := by unfold Hid; rw [H.out]; exact ⟨a, ho⟩
        have Ho := Lib.hid ho
        clear ho
        go_enter Tryd.func6, Tryd.ntmps6
        go_wp2_with (first | (go_at_call 23; refine (specPatternOk_c p _ _ Hv.out).mono ?_; rintro e w1 ⟨b, rfl, hb, rfl⟩; obtain rfl := hb.2 Hp.out; clear hb) | (go_at_call 24; refine (l01In_t _ ?_).mono ?_; (focus omega); rintro e w1 ⟨rfl, rfl⟩) | (go_at_call 25; refine (l14Taken_c p k l _ _ _ Hv.out Hp.out hk Hu.out).mono ?_; rintro e w2 ⟨hx2, h2⟩; rw [Ho.out] at h2; obtain ⟨v2, rfl, ho2⟩ := h2; obtain ⟨A2, c2, hv2, _, _⟩ := ho2.slice; subst hv2))
        go_ret
        exact RB.t Hn.out hx2
    · have H : Hid (¬ IsCov p n l) := fun h => hn1 ⟨h.2.1, h.2.2.1⟩
      clear hp
      go_enter Tryd.func6, Tryd.ntmps6
      go_wp2_with (first | (go_at_call 23; refine (specPatternOk_c p _ _ Hv.out).mono ?_; rintro e w1 ⟨b, rfl, hb, rfl⟩; obtain rfl := hb.2 Hp.out; clear hb) | (go_at_call 24; refine (l01In_f _ ?_).mono ?_; (focus omega); rintro e w1 ⟨rfl, rfl⟩))
      go_ret
      exact RB.f H.out (Below.refl _ _)
  · have H : Hid (¬ IsCov p n l) := fun h => hp h.1
    have Hp := Lib.hid hp
    clear hp
    go_enter Tryd.func6, Tryd.ntmps6
    go_wp2_with (first | (go_at_call 23; refine (specPatternOk_c p _ _ Hv.out).mono ?_; rintro e w1 ⟨b, rfl, hb, rfl⟩; obtain rfl := bool_f hb Hp.out; clear hb))
    go_ret
    exact RB.f H.out (Below.refl _ _)
set_option maxRecDepth 100000 in
set_option maxHeartbeats 2000000 in
theorem specCoverText_c (p : List Int) (n : Int) (l : List Int) (v u : Value) (w : World) (hv : Ints w v p) (hn : I64 n) (hu : Ints w u l) : Calls Tryd.prog 10 #[v, .int .i64 n, u] w (RSc (covT p n l) w) := by

  have Hv := Lib.hid hv
  have Hu := Lib.hid hu
  clear hv hu
  by_cases hc : IsCov p n l
  · obtain ⟨k, rfl⟩ : ∃ k : Nat, n = k := ⟨n.toNat, by have := hc.2.1; omega⟩
    have h3 := IsCov.nat.1 hc
    have hk := h3.2.1
    have Hp := Lib.hid h3.1
    obtain ⟨a, ha⟩ := (cov_iff h3.1 hk l).1 h3.2.2
    have H := Lib.hid (covT_t h3.1 hk ha)
    have Hr : Hid (∀ (j : Nat) (y : Int), a[j]? = some y → 0 ≤ y ∧ y ≤ 23) := fun j y hy => tak_range h3.1 hk ha hy
    have Hal := Lib.hid (takO_len ha)
    have Ho := Lib.hid ha
    have Hc := Lib.hid hc
    clear hc h3 ha
    go_enter Tryd.func10, Tryd.ntmps10
    go_wp2_with (first | (go_at_call 6; refine (specIsCover_c p (k : Int) l _ _ _ Hv.out (by first | assumption | (unfold I64; omega)) Hu.out).mono ?_; rintro e w1 ⟨b1, rfl, hb1, hx1⟩; (obtain rfl := hb1.2 Hc.out; clear hb1)) | (go_at_call 25; refine (l14Taken_c p k l _ _ _ (Hv.out.ext hx1) Hp.out hk (Hu.out.ext hx1)).mono ?_; rintro e w2 ⟨hx2, h2⟩; rw [Ho.out] at h2; obtain ⟨v2, rfl, ho2⟩ := h2; obtain ⟨A2, c2, hv2, _, _⟩ := ho2.slice; rw [Hal.out] at hv2; subst hv2; have Ho2 := Lib.hid ho2; have HX := Lib.hid (hx1.tr hx2); clear ho2 hx2))
    go_loopw [9, 26] (fun s i wr => ∃ j : Nat, j ≤ k ∧ i = .int .i64 j ∧ s = .string (strOfNums ((a.take j).map fun v => 97 + v)) ∧ Hid (Ext w2 wr)) (fun _ i _ => k - (intOf i).toNat)
    case atStart => exact ⟨0, Nat.zero_le _, rfl, rfl, Below.refl _ _⟩
    case round =>
      obtain ⟨j, hj, rfl, rfl, hr⟩ := hrel
      by_cases hjk : j < k
      · obtain ⟨g, cc, he, _, _, _, hcell, _⟩ := (Ho2.out.ext hr.out).shape (by rw [Hal.out]; omega)
        rw [Hal.out] at he
        obtain ⟨rfl, rfl⟩ : A2 = some ⟨g, 0, none⟩ ∧ c2 = cc := by simp only [Value.slice.injEq, true_and] at he; exact he
        obtain ⟨y, hy⟩ : ∃ y, a[j]? = some y := ⟨_, List.getElem?_eq_getElem (by rw [Hal.out]; exact hjk)⟩
        have hcy := hcell j y hy
        have hyr := Hr.out j y hy
        have hjk2 : (j : Int) < (k : Int) := by omega
        obtain ⟨x, hx⟩ : ∃ x, x = 97 + y := ⟨_, rfl⟩
        have hxr : 97 ≤ x ∧ x ≤ 120 := by omega
        have Hn : Hid (strOfNums ((a.take j).map fun v => 97 + v) ++ strOfNums [x] = strOfNums ((a.take (j + 1)).map fun v => 97 + v)) := by
          unfold Hid; rw [map_take_succ hy, strOfNums_app, hx]
        have hx' : 97 + y = x := hx.symm
        have hxw : IntKind.u8.wrap x = x := by rw [IntKind.wrap_u8]; omega
        have hst := (own_byte1 wr x).string
        have hsz : (strOfNums ((a.take j).map fun v => 97 + v)).size ≤ 24 := by rw [strOfNums_size, List.length_map, List.length_take]; omega
        have hsz1 : (strOfNums [x]).size ≤ 1 := by rw [strOfNums_size]; exact Nat.le_refl _
        generalize strOfNums ((a.take j).map fun v => 97 + v) = S at *
        generalize hS1 : strOfNums [x] = S1 at *
        clear hcell he hy hx
        go_wp2
        go_roundw
        case rel => exact ⟨j + 1, by omega, by go_num, by rw [← Hn.out], hr.out.tr (one_boxC wr _)⟩
        case measure => simp [intOf]; omega
      · obtain rfl : j = k := by omega
        have Ht : Hid (a.take j = a) := List.take_of_length_le (by rw [Hal.out]; exact Nat.le_refl _)
        go_wp2
        go_ret
        exact ⟨by rw [H.out, Ht.out]; rfl, HX.out.tr hr.out⟩
  · have H := Lib.hid (covT_f hc)
    have Hc := Lib.hid hc
    clear hc
    go_enter Tryd.func10, Tryd.ntmps10
    go_wp2_with (first | (go_at_call 6; refine (specIsCover_c p n l _ _ _ Hv.out (by first | assumption | (unfold I64; omega)) Hu.out).mono ?_; rintro e w1 ⟨b1, rfl, hb1, hx1⟩; (obtain rfl := bool_f hb1 Hc.out; clear hb1)))
    go_ret
    exact ⟨by rw [H.out]; rfl, hx1⟩
set_option maxRecDepth 100000 in
set_option maxHeartbeats 4000000 in
theorem coverText_c (p : List Int) (n : Int) (l : List Int) (v u : Value) (w : World) (hv : Ints w v p) (hn : I64 n) (hu : Ints w u l) (ht : TabAt 1 Lib.deBruijn64tab w) : Calls Tryd.prog 11 #[v, .int .i64 n, u] w (RSc (covT p n l) w) := by
  have Hv := Lib.hid hv
  have Ht := Lib.hid ht
  obtain ⟨A, c, hue, _, _⟩ := hu.form0
  have hul := hu.len
  obtain ⟨q, hq⟩ : ∃ q, q = l.length := ⟨_, rfl⟩
  rw [← hq] at hue hul
  subst hue
  have Hq := Lib.hid hq
  have Hu := Lib.hid hu
  clear hv hu ht hq
  by_cases hc : IsCov p n l
  · obtain ⟨k, rfl⟩ : ∃ k : Nat, n = k := ⟨n.toNat, by have := hc.2.1; omega⟩
    have h3 := IsCov.nat.1 hc
    have hk := h3.2.1
    have Hp := Lib.hid h3.1
    obtain ⟨a, ha⟩ := (cov_iff h3.1 hk l).1 h3.2.2
    have H := Lib.hid (covT_t h3.1 hk ha)
    have hqk : q ≤ k := by rw [Hq.out]; exact cov_elems h3.1 hk h3.2.2
    have HR := Lib.hid (takO_some ha).1
    have Hall := Lib.hid (takO_some ha).2
    have Ho := Lib.hid ha
    have Hc := Lib.hid hc
    clear hc h3 ha
    go_enter Tryd.func11, Tryd.ntmps11
    go_wp2_with (first | (go_at_call 8; refine (isCover_c p (k : Int) l _ _ _ Hv.out (by first | assumption | (unfold I64; omega)) Hu.out Ht.out).mono ?_; rintro e w1 ⟨b1, rfl, hb1, hx1⟩; (obtain rfl := hb1.2 Hc.out; clear hb1)) | (at_make; refine wp_makeB rfl (.tmp 17) rfl k rfl (by omega) (Nat.le_refl _) ?_; intro w2 ho2 hx2; have Ho2 := Lib.hid ho2; have HX := Lib.hid (hx1.tr hx2); have HX1 := Lib.hid hx1; clear ho2 hx2 hx1))
    go_loopw [21] (fun i wr => ∃ (j : Nat) (b : List Int), j ≤ q ∧ i = .int .i64 j ∧ Hid (OwnB wr w1.heap.size (.slice (some ⟨w1.heap.size, 0, none⟩) k k) (txT b) ∧ b.length = k ∧ w2.grownBy wr (some w1.heap.size) ∧ TR p k l j b)) (fun i _ => q - (intOf i).toNat)
    case atStart => exact ⟨0, List.replicate k (-1), Nat.zero_le _, rfl, by rw [txT_rep]; exact Ho2.out, by rw [List.length_replicate], World.grownBy.refl _ _, TR.zero _ _ _⟩
    case round =>
      obtain ⟨j, b, hj, rfl, hr⟩ := hrel
      have Hxw : Hid (Ext w wr) := HX.out.grown hr.out.2.2.1 HX.out.size fun i hi => by cases hi; exact HX1.out.size
      by_cases hjq : j < q
      · obtain ⟨ad, cc, hA', _, _⟩ := Hu.out.form (by rw [← Hq.out]; omega)
        rw [← Hq.out] at hA'
        obtain ⟨rfl, rfl⟩ : A = some ad ∧ c = cc := by simp only [Value.slice.injEq, true_and] at hA'; exact hA'
        obtain ⟨x, hx⟩ : ∃ x, l[j]? = some x := ⟨_, List.getElem?_eq_getElem (by rw [← Hq.out]; exact hjq)⟩
        have hcx := (Hu.out.ext Hxw.out).cell hx
        have hjq2 : (j : Int) < (q : Int) := by omega
        have hcond : 0 ≤ x ∧ x < 2 * k ∧ (j = 0 ∨ l.getD (j - 1) 0 < x) ∧ (x % 2 = 1 → mirL p ≠ p) := Classical.byContradiction fun hn => by
          have h9 := hr.out.2.2.2.none hx hn
          rw [Ho.out] at h9; cases h9
        have Hlay := Lib.hid (hr.out.2.2.2.lay hx hcond)
        obtain ⟨e, rfl⟩ := Int.eq_ofNat_of_zero_le hcond.1
        have he : e ≤ 47 := by omega
        obtain ⟨h, hh⟩ : ∃ h, h = e / 2 := ⟨_, rfl⟩
        obtain ⟨f, hf⟩ : ∃ f, f = e % 2 := ⟨_, rfl⟩
        have hef : e = 2 * h + f := by omega
        have hf01 : f = 0 ∨ f = 1 := by omega
        have hh24 : h ≤ 24 := by omega
        obtain ⟨sq, hsq⟩ : ∃ sq, sq = (if f = 1 then mirL p else p) := ⟨_, rfl⟩
        have Hsok : Hid (PatOk sq) := by unfold Hid; rw [hsq]; split; exact mirL_ok Hp.out; exact Hp.out
        have Hlb : Hid (lbL p h f = sq.map fun y => (h : Int) + y) := by unfold Hid lbL; rw [hsq]
        have Hsh : Hid (((if (e : Int) % 2 = 1 then mirL p else p).map fun y => (e : Int) / 2 + y) = sq.map fun y => (h : Int) + y) := by
          unfold Hid
          rw [hsq, show (e : Int) / 2 = (h : Int) by omega]
          by_cases h1 : f = 1
          · rw [if_pos h1, if_pos (by omega)]
          · rw [if_neg h1, if_neg (by omega)]
        have HL : Hid (∀ w : World, Ints w v p → Calls Tryd.prog 32 #[v, .int .i64 (e : Int)] w (RL (sq.map fun y => (h : Int) + y) w)) := fun w hi => by
          rw [hef, ← Hlb.out]
          exact laidBy_add p h f hf01 v w hi Hp.out hh24
        obtain ⟨m, hm⟩ : ∃ m, m = sq.length := ⟨_, rfl⟩
        have hsl := Hsok.out.len
        rw [← hm] at hsl
        have Hm := Lib.hid hm
        have Hb := Lib.hid hr.out.1
        have Hbl := Lib.hid hr.out.2.1
        have Hbg := Lib.hid hr.out.2.2.1
        have Hlay2 : Hid ((∀ b', layC (j : Int) (sq.map fun y => (h : Int) + y) b = some b' → TR p k l (j + 1) b') ∧ (layC (j : Int) (sq.map fun y => (h : Int) + y) b = none → takO p k l = none)) := by
          have h9 := Hlay.out; rw [Hsh.out] at h9; exact h9
        clear hr hA' hx hcond hef hf hsq hm hh Hlay
        go_wp2_with (first | (go_at_call 32; refine (HL.out _ (Hv.out.ext Hxw.out)).mono ?_; rintro e3 w3 ⟨v3, rfl, ho3, hx3⟩; obtain ⟨A3, c3, hv3, _, _⟩ := ho3.slice; rw [List.length_map, ← Hm.out] at hv3; subst hv3; have Ho3 := Lib.hid ho3; have Hx3 := Lib.hid hx3; clear ho3 hx3))
        have Hb3 := Lib.hid (Hb.out.ext Hx3.out)
        have Hap3 : Hid ((Value.slice A3 m c3).ownBlock = none ∨ (Value.slice A3 m c3).ownBlock ≠ some w1.heap.size) := by
          cases h9 : (Value.slice A3 m c3).ownBlock with
          | none => exact .inl rfl
          | some g9 =>
            refine .inr fun h' => ?_
            have h1 := (Ho3.out.lt g9 h9).1
            have h2 := (Hb.out.lt w1.heap.size (by simp [Value.ownBlock])).2
            cases h'; omega
        go_loopw [30] (fun i wz => ∃ (z : Nat) (d : List Int), z ≤ m ∧ i = .int .i64 z ∧ Hid (OwnB wz w1.heap.size (.slice (some ⟨w1.heap.size, 0, none⟩) k k) (txT d) ∧ d.length = k ∧ w3.grownBy wz (some w1.heap.size) ∧ layC (j : Int) ((sq.drop z).map fun y => (h : Int) + y) d = layC (j : Int) (sq.map fun y => (h : Int) + y) b)) (fun i _ => m - (intOf i).toNat)
        case atStart => exact ⟨0, b, Nat.zero_le _, rfl, Hb3.out, Hbl.out, World.grownBy.refl _ _, by rw [List.drop_zero]⟩
        case round =>
          obtain ⟨z, d, hz, rfl, hs⟩ := hrel
          have Hd := Lib.hid hs.out.1
          have Hdl := Lib.hid hs.out.2.1
          have Hdg := Lib.hid hs.out.2.2.1
          have Hdc := Lib.hid hs.out.2.2.2
          by_cases hzm : z < m
          · obtain ⟨y0, hy⟩ : ∃ y, sq[z]? = some y := ⟨_, List.getElem?_eq_getElem (by rw [← Hm.out]; exact hzm)⟩
            have hy12 := Hsok.out.at_ hy
            obtain ⟨y, rfl⟩ := Int.eq_ofNat_of_zero_le hy12.1
            obtain ⟨x, hx⟩ : ∃ x, x = h + y := ⟨_, rfl⟩
            have hxi : (h : Int) + (y : Int) = (x : Int) := by omega
            obtain ⟨ads, ccs, hAs, _, _⟩ := Ho3.out.ints.form (by rw [List.length_map, ← Hm.out]; omega)
            rw [List.length_map, ← Hm.out] at hAs
            obtain ⟨rfl, rfl⟩ : A3 = some ads ∧ c3 = ccs := by simp only [Value.slice.injEq, true_and] at hAs; exact hAs
            have hcy := (Ho3.out.ints.grown Hdg.out Hap3.out).cell (k := z) (x := (x : Int)) (by rw [List.getElem?_map, hy]; simp [hxi])
            have hon : 0 ≤ (h : Int) + (y : Int) ∧ (h : Int) + (y : Int) < d.length ∧ d.getD ((h : Int) + (y : Int)).toNat 0 < 0 := Classical.byContradiction fun hn => by
              have h9 := layC_stop (i := (j : Int)) hy hn
              rw [Hdc.out] at h9
              have h8 := Hlay2.out.2 h9
              rw [Ho.out] at h8; cases h8
            have hxk : x < k := by rw [← Hdl.out]; omega
            have hxk2 : (x : Int) < (k : Int) := by omega
            have Hon : Hid (layC (j : Int) ((sq.drop (z + 1)).map fun y => (h : Int) + y) (d.set x (j : Int)) = layC (j : Int) (sq.map fun y => (h : Int) + y) b) := by
              have h9 := layC_on (i := (j : Int)) hy hon
              rw [hxi, Int.toNat_natCast] at h9
              unfold Hid
              rw [← h9]; exact Hdc.out
            have hzm2 : (z : Int) < (m : Int) := by omega
            obtain ⟨ch, hch⟩ : ∃ ch, ch = 97 + (j : Int) := ⟨_, rfl⟩
            have hchr : 97 ≤ ch ∧ ch ≤ 121 := by omega
            have hch' : 97 + (j : Int) = ch := hch.symm
            have hcw : IntKind.u8.wrap ch = ch := by rw [IntKind.wrap_u8]; omega
            have hcx := Hd.out.cell (k := x) (x := (txT d).getD x 0) (get_of_lt (by rw [txT_len, Hdl.out]; exact hxk))
            have hfx := Hd.out.free x
            have Hst := Lib.hid (Hd.out.stored x ch)
            have Hch := Lib.hid hch
            clear hy hAs hon hx hch
            go_wp2
            go_roundw
            case rel => exact ⟨z + 1, d.set x (j : Int), by omega, by go_num, by rw [txT_set, ← Hch.out]; exact Hst.out.1, by rw [List.length_set]; exact Hdl.out, grownBy_tr Hdg.out Hst.out.2, Hon.out⟩
            case measure => simp [intOf]; omega
          · obtain rfl : z = m := by omega
            have HTn : Hid (TR p k l (j + 1) d) := Hlay2.out.1 d (by rw [← Hdc.out, Hm.out]; exact layC_end)
            go_wp2
            go_roundw
            case rel => exact ⟨j + 1, d, by omega, by go_num, Hd.out, Hdl.out, grownBy_tr (grownBy_tr Hbg.out (grownBy_of_ext Hx3.out _)) Hdg.out, HTn.out⟩
            case measure => simp [intOf]; omega
      · obtain rfl : j = q := by omega
        have Hba : Hid (b = a) := by
          have h9 := hr.out.2.2.2
          rw [Hq.out] at h9
          have h8 := h9.done
          rw [HR.out] at h8
          exact (Option.some.inj h8).symm
        have hst := hr.out.1.string
        have Hfin : Hid (txT b = covT p k l) := by unfold Hid; rw [Hba.out, H.out]; exact txT_all Hall.out
        rw [Hfin.out] at hst
        go_wp2
        go_ret
        exact ⟨rfl, Hxw.out⟩
  · have H := Lib.hid (covT_f hc)
    have Hc := Lib.hid hc
    clear hc
    go_enter Tryd.func11, Tryd.ntmps11
    go_wp2_with (first | (go_at_call 8; refine (isCover_c p n l _ _ _ Hv.out (by first | assumption | (unfold I64; omega)) Hu.out Ht.out).mono ?_; rintro e w1 ⟨b1, rfl, hb1, hx1⟩; (obtain rfl := bool_f hb1 Hc.out; clear hb1)))
    go_ret
    exact ⟨by rw [H.out]; rfl, hx1⟩
end Go.Proofs.YtpnbcgnbkanebaaDoor
