/- Contracts: product, l18Size, allWithin, MeterOk, MeterSize. -/
import Derived.Test.YtblkddjljncggaaFa
import Derived.Test.YtblkddjljncggaaPureM
namespace Go.Proofs.Ytblkddjljncggaa
open Go.RowKit

theorem product_c (l : List Int) (v : Value) (w : World) (hv : Ints w v l) (hs : Small l) : Calls Try.prog 50 #[v] w fun e w' => e = .returned (.int .i64 (prodL l)) ∧ w = w' := by
  have hlen := hs.1
  obtain ⟨A, c, rfl, hlc, hcm, hcell⟩ := hv
  have Hcell := Lib.hid hcell
  have Hs := Lib.hid hs
  clear hcell hs
  go_enter Try.func50, Try.ntmps50
  go_wp2
  go_loop [3, 8] (fun o i => ∃ (k : Nat) (p : Int), k ≤ l.length ∧ 1 ≤ p ∧ p ≤ 16807 ∧ i = .int .i64 k ∧ o = .int .i64 p ∧ Hid (p = prodL (l.take k))) (fun _ i => l.length - (intOf i).toNat)
  case atStart => exact ⟨0, 1, by omega, by omega, by omega, rfl, rfl, rfl⟩
  case round =>
    obtain ⟨k, p, hk, hp1, hp2, rfl, rfl, hp⟩ := hrel
    rcases hx : l[k]? with _ | x
    · have h1 : l.length ≤ k := by have := List.getElem?_eq_none_iff.1 hx; omega
      clear hx
      go_wp2
      go_ret
      rw [← List.take_of_length_le h1, ← hp.out]
      exact ⟨rfl, rfl⟩
    · obtain ⟨hxr, ad, hA, hc⟩ := Hcell.out k x hx
      have hkl : k < l.length := (List.getElem?_eq_some_iff.1 hx).1
      subst hA
      have hx7 := Hs.out.2 x (List.mem_of_getElem? hx)
      have hb := (Hs.out.take (k + 1)).prod
      have Hn : Hid (p * x = prodL (l.take (k + 1))) := by unfold Hid; rw [prodL_take hx, hp.out]
      rw [← Hn.out] at hb
      have hw1 : IntKind.i64.wrap (p * x) = p * x := IntWalk.i64_in _ (by omega)
      clear hx
      go_wp2
      go_round
      case rel => exact ⟨k + 1, p * x, by omega, hb.1, hb.2, by go_num, rfl, Hn⟩
      case measure => simp [intOf]; omega
theorem l18Size_c (l : List Int) (v : Value) (w : World) (hv : Ints w v l) (hs : Small l) : Calls Try.prog 46 #[v] w fun e w' => e = .returned (.int .i64 (prodL l)) ∧ w = w' := by
  have hlen := hs.1
  obtain ⟨A, c, rfl, hlc, hcm, hcell⟩ := hv
  have Hcell := Lib.hid hcell
  have Hs := Lib.hid hs
  clear hcell hs
  go_enter Try.func46, Try.ntmps46
  go_wp2
  go_loop [3, 8] (fun o i => ∃ (k : Nat) (p : Int), k ≤ l.length ∧ 1 ≤ p ∧ p ≤ 16807 ∧ i = .int .i64 k ∧ o = .int .i64 p ∧ Hid (p = prodL (l.take k))) (fun _ i => l.length - (intOf i).toNat)
  case atStart => exact ⟨0, 1, by omega, by omega, by omega, rfl, rfl, rfl⟩
  case round =>
    obtain ⟨k, p, hk, hp1, hp2, rfl, rfl, hp⟩ := hrel
    rcases hx : l[k]? with _ | x
    · have h1 : l.length ≤ k := by have := List.getElem?_eq_none_iff.1 hx; omega
      clear hx
      go_wp2
      go_ret
      rw [← List.take_of_length_le h1, ← hp.out]
      exact ⟨rfl, rfl⟩
    · obtain ⟨hxr, ad, hA, hc⟩ := Hcell.out k x hx
      have hkl : k < l.length := (List.getElem?_eq_some_iff.1 hx).1
      subst hA
      have hx7 := Hs.out.2 x (List.mem_of_getElem? hx)
      have hb := (Hs.out.take (k + 1)).prod
      have Hn : Hid (p * x = prodL (l.take (k + 1))) := by unfold Hid; rw [prodL_take hx, hp.out]
      rw [← Hn.out] at hb
      have hw1 : IntKind.i64.wrap (p * x) = p * x := IntWalk.i64_in _ (by omega)
      clear hx
      go_wp2
      go_round
      case rel => exact ⟨k + 1, p * x, by omega, hb.1, hb.2, by go_num, rfl, Hn⟩
      case measure => simp [intOf]; omega
theorem specMeterOk_c (l : List Int) (v : Value) (w : World) (hv : Ints w v l) : Calls Try.prog 45 #[v] w (RBs (MetOk l) w) := by
  have hlen := hv.len
  obtain ⟨A, c, rfl, hlc, hcm, hcell⟩ := hv
  have Hcell := Lib.hid hcell
  clear hcell
  by_cases hl : 1 ≤ l.length ∧ l.length ≤ 5
  · go_enter Try.func45, Try.ntmps45
    go_wp2_with (first | (go_at_call 36; refine (l01In_t _ ?_).mono ?_; (focus omega); rintro e w1 ⟨rfl, rfl⟩) | (go_at_call 36; refine (l01In_f _ ?_).mono ?_; (focus omega); rintro e w1 ⟨rfl, rfl⟩))
    go_loop [3, 12] (fun o i => ∃ (k : Nat) (p : Int), k ≤ l.length ∧ 1 ≤ p ∧ p ≤ 16807 ∧ i = .int .i64 k ∧ o = .int .i64 p ∧ Hid (p = prodL (l.take k) ∧ ∀ x ∈ l.take k, 2 ≤ x ∧ x ≤ 7)) (fun _ i => l.length - (intOf i).toNat)
    case atStart => exact ⟨0, 1, by omega, by omega, by omega, rfl, rfl, rfl, by simp⟩
    case round =>
      obtain ⟨k, p, hk, hp1, hp2, rfl, rfl, hp⟩ := hrel
      rcases hx : l[k]? with _ | x
      · have h1 : l.length ≤ k := by have := List.getElem?_eq_none_iff.1 hx; omega
        have Hp : Hid (p = prodL l ∧ ∀ x ∈ l, 2 ≤ x ∧ x ≤ 7) := by have := hp.out; rw [List.take_of_length_le h1] at this; exact this
        clear hx
        by_cases h24 : p ≤ 24
        · go_wp2
          go_ret
          exact RBs.t ⟨hl, Hp.out.2, by rw [← Hp.out.1]; exact h24⟩
        · have h24' : decide (p ≤ 24) = false := by simpa using h24
          have Hf : Hid (¬ MetOk l) := fun h => h24 (by rw [Hp.out.1]; exact h.2.2)
          go_wp2
          go_ret
          exact RBs.f Hf.out
      · obtain ⟨hxr, ad, hA, hc⟩ := Hcell.out k x hx
        have hkl : k < l.length := (List.getElem?_eq_some_iff.1 hx).1
        subst hA
        by_cases hx7 : 2 ≤ x ∧ x ≤ 7
        · have hall : ∀ y ∈ l.take (k + 1), 2 ≤ y ∧ y ≤ 7 := by
            rw [take_succ hx]
            intro y hy
            rcases List.mem_append.1 hy with h' | h'
            · exact hp.out.2 y h'
            · simp at h'; rw [h']; exact hx7
          have hb := Small.prod (l := l.take (k + 1)) ⟨by simp; omega, fun y hy => by have := hall y hy; omega⟩
          have Hn : Hid (p * x = prodL (l.take (k + 1)) ∧ ∀ y ∈ l.take (k + 1), 2 ≤ y ∧ y ≤ 7) := ⟨by rw [prodL_take hx, hp.out.1], hall⟩
          rw [← Hn.out.1] at hb
          have hw1 : IntKind.i64.wrap (p * x) = p * x := IntWalk.i64_in _ (by omega)
          clear hx hall
          go_wp2_with (first | (go_at_call 36; refine (l01In_t _ ?_).mono ?_; (focus omega); rintro e w1 ⟨rfl, rfl⟩) | (go_at_call 36; refine (l01In_f _ ?_).mono ?_; (focus omega); rintro e w1 ⟨rfl, rfl⟩))
          go_round
          case rel => exact ⟨k + 1, p * x, by omega, hb.1, hb.2, by go_num, rfl, Hn⟩
          case measure => simp [intOf]; omega
        · have Hf : Hid (¬ MetOk l) := fun h => hx7 (h.2.1 x (List.mem_of_getElem? hx))
          clear hx
          go_wp2_with (first | (go_at_call 36; refine (l01In_t _ ?_).mono ?_; (focus omega); rintro e w1 ⟨rfl, rfl⟩) | (go_at_call 36; refine (l01In_f _ ?_).mono ?_; (focus omega); rintro e w1 ⟨rfl, rfl⟩))
          go_ret
          exact RBs.f Hf.out
  · have Hf : Hid (¬ MetOk l) := fun h => hl h.1
    go_enter Try.func45, Try.ntmps45
    go_wp2_with (first | (go_at_call 36; refine (l01In_t _ ?_).mono ?_; (focus omega); rintro e w1 ⟨rfl, rfl⟩) | (go_at_call 36; refine (l01In_f _ ?_).mono ?_; (focus omega); rintro e w1 ⟨rfl, rfl⟩))
    go_ret
    exact RBs.f Hf.out
theorem awClosure_c (x lo hi : Int) (b1 b2 : Nat) (w : World) (h1 : w.cell? ⟨b1, 0, none⟩ = some (.int .i64 lo)) (h2 : w.cell? ⟨b2, 0, none⟩ = some (.int .i64 hi)) :
    Calls Try.prog 71 #[.int .i64 x, .pointer (some ⟨b1, 0, none⟩), .pointer (some ⟨b2, 0, none⟩)] w (RB (¬ (lo ≤ x ∧ x ≤ hi)) w) := by
  by_cases h : lo ≤ x ∧ x ≤ hi
  · go_enter Try.func71, Try.ntmps71
    go_wp2_with (first | (go_at_call 38; refine (within_t _ ?_).mono ?_; (focus omega); rintro e w1 ⟨rfl, rfl⟩) | (go_at_call 38; refine (within_f _ ?_).mono ?_; (focus omega); rintro e w1 ⟨rfl, rfl⟩))
    go_ret
    exact RB.f (fun h' => h' h) (Below.refl _ _)
  · go_enter Try.func71, Try.ntmps71
    go_wp2_with (first | (go_at_call 38; refine (within_t _ ?_).mono ?_; (focus omega); rintro e w1 ⟨rfl, rfl⟩) | (go_at_call 38; refine (within_f _ ?_).mono ?_; (focus omega); rintro e w1 ⟨rfl, rfl⟩))
    go_ret
    exact RB.t h (Below.refl _ _)

/-- the first index whose element lies outside, or -1 -/
theorem awIndex_c (l : List Int) (v : Value) (lo hi : Int) (b1 b2 : Nat) (w : World) (hv : Ints w v l) (h1 : w.cell? ⟨b1, 0, none⟩ = some (.int .i64 lo)) (h2 : w.cell? ⟨b2, 0, none⟩ = some (.int .i64 hi)) :
    Calls Try.prog 72 #[v, .func (.func 71) #[] #[.pointer (some ⟨b1, 0, none⟩), .pointer (some ⟨b2, 0, none⟩)]] w
      fun e w' => (e = .returned (.int .i64 (-1)) ∧ (∀ x ∈ l, lo ≤ x ∧ x ≤ hi) ∨ (∃ k : Nat, e = .returned (.int .i64 k) ∧ ¬ (∀ x ∈ l, lo ≤ x ∧ x ≤ hi))) ∧ Ext w w' := by
  have hlen := hv.len
  obtain ⟨A, c, rfl, hlc, hcm⟩ := hv.form0
  have Hv := Lib.hid hv
  have H1 := Lib.hid h1
  have H2 := Lib.hid h2
  clear hv h1 h2
  go_enter Try.func72, Try.ntmps72
  go_wp2
  go_loopw [8] (fun i wr => ∃ (k : Nat), k ≤ l.length ∧ i = .int .i64 k ∧ Hid (∀ x ∈ l.take k, lo ≤ x ∧ x ≤ hi) ∧ Ext w wr) (fun i _ => l.length - (intOf i).toNat)
  case atStart => exact ⟨0, by omega, rfl, by simp [Hid], Below.refl _ _⟩
  case round =>
    obtain ⟨k, hk, rfl, hall, hx⟩ := hrel
    by_cases hkl : k < l.length
    · obtain ⟨ad, c', hA, _, _⟩ := Hv.out.form (by omega)
      obtain ⟨rfl, rfl⟩ : A = some ad ∧ c = c' := by simpa using hA
      obtain ⟨x, hx1⟩ : ∃ x, l[k]? = some x := ⟨_, List.getElem?_eq_getElem (by omega)⟩
      have hc := (Hv.out.ext hx).cell hx1
      have H1' := hx.cell_of H1.out
      have H2' := hx.cell_of H2.out
      have Hx1 := Lib.hid hx1
      clear hx1 hA
      by_cases hin : lo ≤ x ∧ x ≤ hi
      · have Hn : Hid (∀ y ∈ l.take (k + 1), lo ≤ y ∧ y ≤ hi) := by
          unfold Hid
          rw [take_succ Hx1.out]
          intro y hy
          rcases List.mem_append.1 hy with h' | h'
          · exact hall.out y h'
          · simp at h'; rw [h']; exact hin
        have Hin := Lib.hid hin
        clear hin
        go_wp2_with (first | (go_at_call 71; refine (awClosure_c _ _ _ _ _ _ H1' H2').mono ?_; rintro e w1 ⟨b, rfl, hb, hx2⟩; obtain rfl := bool_f hb (fun h => h Hin.out); clear hb))
        go_roundw
        case rel => exact ⟨k + 1, by omega, by go_num, Hn, hx.tr hx2⟩
        case measure => simp [intOf]; omega
      · have Hin := Lib.hid hin
        clear hin
        go_wp2_with (first | (go_at_call 71; refine (awClosure_c _ _ _ _ _ _ H1' H2').mono ?_; rintro e w1 ⟨b, rfl, hb, hx2⟩; obtain rfl := hb.2 Hin.out; clear hb))
        go_ret
        exact ⟨.inr ⟨k, rfl, fun h => Hin.out (h x (List.mem_of_getElem? Hx1.out))⟩, hx.tr hx2⟩
    · have Hk : Hid (k = l.length) := by show k = _; omega
      go_wp2
      go_ret
      have := hall.out
      rw [Hk.out, List.take_of_length_le (Nat.le_refl _)] at this
      exact ⟨.inl ⟨rfl, this⟩, hx⟩
def AwPost (l : List Int) (lo hi : Int) (w : World) (e : Ending) (w' : World) : Prop :=
  (e = .returned (.int .i64 (-1)) ∧ (∀ x ∈ l, lo ≤ x ∧ x ≤ hi) ∨ (∃ k : Nat, e = .returned (.int .i64 k) ∧ ¬ (∀ x ∈ l, lo ≤ x ∧ x ≤ hi))) ∧ Ext w w'
theorem awContains_c (l : List Int) (v : Value) (lo hi : Int) (b1 b2 : Nat) (w : World) (hv : Ints w v l) (h1 : w.cell? ⟨b1, 0, none⟩ = some (.int .i64 lo)) (h2 : w.cell? ⟨b2, 0, none⟩ = some (.int .i64 hi)) :
    Calls Try.prog 70 #[v, .func (.func 71) #[] #[.pointer (some ⟨b1, 0, none⟩), .pointer (some ⟨b2, 0, none⟩)]] w (RB (¬ ∀ x ∈ l, lo ≤ x ∧ x ≤ hi) w) := by
  by_cases hall : ∀ x ∈ l, lo ≤ x ∧ x ≤ hi
  · have Hall := Lib.hid hall
    clear hall
    go_enter Try.func70, Try.ntmps70
    go_wp2_with (first | (go_at_call 72; refine (awIndex_c l _ _ _ _ _ _ hv h1 h2).mono ?_; rintro e w1 ⟨hr, hx⟩; obtain ⟨rfl, _⟩ := hr.resolve_right (fun ⟨_, _, h⟩ => h Hall.out)))
    go_ret
    exact RB.f (fun h => h Hall.out) (by assumption)
  · have Hall := Lib.hid hall
    clear hall
    go_enter Try.func70, Try.ntmps70
    go_wp2_with (first | (go_at_call 72; refine (awIndex_c l _ _ _ _ _ _ hv h1 h2).mono ?_; rintro e w1 ⟨hr, hx⟩; obtain ⟨k, rfl, _⟩ := hr.resolve_left (fun ⟨_, h⟩ => Hall.out h)))
    go_ret
    exact RB.t Hall.out (by assumption)
theorem allWithin_c (l : List Int) (v : Value) (lo hi : Int) (w : World) (hv : Ints w v l) : Calls Try.prog 62 #[v, .int .i64 lo, .int .i64 hi] w (RB (∀ x ∈ l, lo ≤ x ∧ x ≤ hi) w) := by
  have h1 : ((w.alloc (.cells #[.int .i64 lo] 3)).alloc (.cells #[.int .i64 hi] 3)).cell? ⟨w.heap.size, 0, none⟩ = some (.int .i64 lo) := by
    rw [World.cell?_alloc_lt _ _ _ (by simp)]
    exact cell_new0 _ _ _
  have h2 : ((w.alloc (.cells #[.int .i64 lo] 3)).alloc (.cells #[.int .i64 hi] 3)).cell? ⟨w.heap.size + 1, 0, none⟩ = some (.int .i64 hi) := by
    simpa only [World.size_alloc] using cell_new0 (w.alloc (.cells #[.int .i64 lo] 3)) (.int .i64 hi) 3
  have Hv := Lib.hid ((hv.alloc (.cells #[.int .i64 lo] 3)).alloc (.cells #[.int .i64 hi] 3))
  have H1 := Lib.hid h1
  have H2 := Lib.hid h2
  clear h1 h2 hv
  go_enter Try.func62, Try.ntmps62
  go_wp2_with (first | (go_at_call 70; refine (awContains_c l _ _ _ _ _ _ Hv.out H1.out H2.out).mono ?_; rintro e w1 ⟨b, rfl, hb, hx⟩))
  go_ret
  refine ⟨!b, rfl, ?_, Ext.tr ((Below.refl _ _).alloc (Nat.le_refl _) _ |>.alloc (by simp) _) hx⟩
  cases b <;> simp_all

theorem meterOk_c (l : List Int) (v : Value) (w : World) (hv : Ints w v l) : Calls Try.prog 48 #[v] w (RB (MetOk l) w) := by
  have hlen := hv.len
  obtain ⟨A, c, rfl, hlc, hcm⟩ := hv.form0
  have Hv := Lib.hid hv
  clear hv
  by_cases hl : 1 ≤ l.length ∧ l.length ≤ 5
  · by_cases hall : ∀ x ∈ l, (2 : Int) ≤ x ∧ x ≤ 7
    · have hs : Small l := ⟨hl.2, fun x hx => by have := hall x hx; omega⟩
      have Hs := Lib.hid hs
      have Hall := Lib.hid hall
      have hb := hs.prod
      clear hall hs
      by_cases h24 : prodL l ≤ 24
      · have Ht : Hid (MetOk l) := ⟨hl, Hall.out, h24⟩
        go_enter Try.func48, Try.ntmps48
        go_wp2_with (first | (go_at_call 38; refine (within_t _ ?_).mono ?_; (focus omega); rintro e w1 ⟨rfl, rfl⟩) | (go_at_call 38; refine (within_f _ ?_).mono ?_; (focus omega); rintro e w1 ⟨rfl, rfl⟩) | (go_at_call 62; refine (allWithin_c l _ _ _ _ Hv.out).mono ?_; rintro e w1 ⟨b, rfl, hb1, hx⟩; obtain rfl := hb1.2 Hall.out; clear hb1) | (go_at_call 50; refine (product_c l _ _ (Hv.out.ext hx) Hs.out).mono ?_; rintro e w2 ⟨rfl, rfl⟩))
        go_ret
        exact ⟨_, rfl, ⟨fun _ => Ht.out, fun _ => by simp [h24]⟩, by assumption⟩
      · have Hf : Hid (¬ MetOk l) := fun h => h24 h.2.2
        have H24 := Lib.hid h24
        go_enter Try.func48, Try.ntmps48
        go_wp2_with (first | (go_at_call 38; refine (within_t _ ?_).mono ?_; (focus omega); rintro e w1 ⟨rfl, rfl⟩) | (go_at_call 38; refine (within_f _ ?_).mono ?_; (focus omega); rintro e w1 ⟨rfl, rfl⟩) | (go_at_call 62; refine (allWithin_c l _ _ _ _ Hv.out).mono ?_; rintro e w1 ⟨b, rfl, hb1, hx⟩; obtain rfl := hb1.2 Hall.out; clear hb1) | (go_at_call 50; refine (product_c l _ _ (Hv.out.ext hx) Hs.out).mono ?_; rintro e w2 ⟨rfl, rfl⟩))
        go_ret
        exact ⟨_, rfl, ⟨fun h => absurd (of_decide_eq_true h) (by have := H24.out; omega), fun h => absurd h Hf.out⟩, by assumption⟩
    · have Hf : Hid (¬ MetOk l) := fun h => hall h.2.1
      have Hall := Lib.hid hall
      clear hall
      go_enter Try.func48, Try.ntmps48
      go_wp2_with (first | (go_at_call 38; refine (within_t _ ?_).mono ?_; (focus omega); rintro e w1 ⟨rfl, rfl⟩) | (go_at_call 38; refine (within_f _ ?_).mono ?_; (focus omega); rintro e w1 ⟨rfl, rfl⟩) | (go_at_call 62; refine (allWithin_c l _ _ _ _ Hv.out).mono ?_; rintro e w1 ⟨b, rfl, hb1, hx⟩; obtain rfl := bool_f hb1 Hall.out; clear hb1))
      go_ret
      exact RB.f Hf.out (by assumption)
  · have Hf : Hid (¬ MetOk l) := fun h => hl h.1
    go_enter Try.func48, Try.ntmps48
    go_wp2_with (first | (go_at_call 38; refine (within_t _ ?_).mono ?_; (focus omega); rintro e w1 ⟨rfl, rfl⟩) | (go_at_call 38; refine (within_f _ ?_).mono ?_; (focus omega); rintro e w1 ⟨rfl, rfl⟩))
    go_ret
    exact RB.f Hf.out (Below.refl _ _)
end Go.Proofs.Ytblkddjljncggaa
