/- Contracts: isUnit, stretched, StretchRhythm; StretchCanon on both sides. -/
import Derived.Test.YtaiigheknmndnaaFcn
import Derived.Test.YtaiigheknmndnaaFgcd
namespace Go.Proofs.Ytaiigheknmndnaa
open Go.RowKit
/-- u is a unit modulo n -/
def uniOk (u : Int) (n : Nat) : Prop := 1 ≤ u ∧ u ≤ max (n - 1 : Int) 1 ∧ Nat.gcd u.toNat n = 1
instance (u : Int) (n : Nat) : Decidable (uniOk u n) := by unfold uniOk; infer_instance
theorem isUnit_c (u : Int) (n : Nat) (w : World) (hn : 1 ≤ n ∧ n ≤ 24) : Calls Try.prog 55 #[.int .i64 u, .int .i64 n] w (RB (uniOk u n) w) := by
  have hn1 : (1 : Int) ≤ (n : Int) := by omega
  by_cases hu : 1 ≤ u ∧ u ≤ max (n - 1 : Int) 1
  · obtain ⟨a, rfl⟩ := Int.eq_ofNat_of_zero_le (show 0 ≤ u by omega)
    obtain ⟨g, hg⟩ : ∃ g, g = Nat.gcd a n := ⟨_, rfl⟩
    have ha : a ≤ 1000 := by omega
    have H : Hid (uniOk a n ↔ g = 1) := by unfold Hid uniOk; rw [hg]; simp; omega
    have Hg := Lib.hid hg
    have hu1 := hu.1
    have hu2 := hu.2
    clear hg
    by_cases hg1 : g = 1
    · have hb : ((g : Int) == 1) = true := by simp [hg1]
      have Ht := Lib.hid (H.out.2 hg1)
      clear hg1
      go_enter Try.func55, Try.ntmps55
      go_wp2_with (first | (go_at_call 50; refine (within_t _ ?_).mono ?_; (focus omega); rintro e w1 ⟨rfl, rfl⟩) | (go_at_call 50; refine (within_f _ ?_).mono ?_; (focus omega); rintro e w1 ⟨rfl, rfl⟩) | (go_at_call 83; refine (gcd_c _ _ (by omega) (by omega) _).mono ?_; rintro e w2 ⟨rfl, hx2⟩; rw [← Hg.out]))
      go_ret
      exact RB.t Ht.out hx2
    · have hb : ((g : Int) == 1) = false := by rw [beq_eq_false_iff_ne]; omega
      have Ht : Hid (¬ uniOk a n) := fun h => hg1 (H.out.1 h)
      clear hg1
      go_enter Try.func55, Try.ntmps55
      go_wp2_with (first | (go_at_call 50; refine (within_t _ ?_).mono ?_; (focus omega); rintro e w1 ⟨rfl, rfl⟩) | (go_at_call 50; refine (within_f _ ?_).mono ?_; (focus omega); rintro e w1 ⟨rfl, rfl⟩) | (go_at_call 83; refine (gcd_c _ _ (by omega) (by omega) _).mono ?_; rintro e w2 ⟨rfl, hx2⟩; rw [← Hg.out]))
      go_ret
      exact RB.f Ht.out hx2
  · have Ht : Hid (¬ uniOk u n) := fun h => hu ⟨h.1, h.2.1⟩
    go_enter Try.func55, Try.ntmps55
    go_wp2_with (first | (go_at_call 50; refine (within_t _ ?_).mono ?_; (focus omega); rintro e w1 ⟨rfl, rfl⟩) | (go_at_call 50; refine (within_f _ ?_).mono ?_; (focus omega); rintro e w1 ⟨rfl, rfl⟩))
    go_ret
    exact RB.f Ht.out (Below.refl _ _)
/-- each number times u -/
def timL (u : Int) (l : List Int) : List Int := l.map fun x => u * x
theorem timL_len (u : Int) (l : List Int) : (timL u l).length = l.length := by simp [timL]
theorem timL_take {u : Int} {j : Nat} {l : List Int} {x : Int} (h : l[j]? = some x) : timL u (l.take (j + 1)) = timL u (l.take j) ++ [u * x] := by
  unfold timL; rw [take_succ h]; simp
theorem timL_mul (u : Int) (l : List Int) : mulL u 0 l = timL u l := by simp [mulL, timL]
def strL (n : Nat) (l : List Int) (u : Int) : List Int := rhL n (remL n (timL u l))
theorem mapL_str (n : Nat) (l : List Int) (u : Int) : mapL n l u 0 = strL n l u := by unfold mapL mapN strL; rw [timL_mul]
theorem str1_c (x u : Int) (b : Nat) (w : World) (hx : 0 ≤ x ∧ x ≤ 24) (hu : 0 ≤ u ∧ u ≤ 100) (h1 : w.cell? ⟨b, 0, none⟩ = some (.int .i64 u)) :
    Calls Try.prog 84 #[.int .i64 x, .pointer (some ⟨b, 0, none⟩)] w fun e w' => e = .returned (.int .i64 (u * x)) ∧ w = w' := by
  have h2 : 0 ≤ u * x ∧ u * x ≤ 100 * 24 := ⟨Int.mul_nonneg hu.1 hx.1, Int.mul_le_mul hu.2 hx.2 hx.1 (by omega)⟩
  obtain ⟨t, ht⟩ : ∃ t, t = u * x := ⟨_, rfl⟩
  rw [← ht] at h2
  have hw1 : IntKind.i64.wrap (u * x) = t := by rw [← ht]; exact IntWalk.i64_in _ (by omega)
  have Ht := Lib.hid ht
  clear ht
  go_enter Try.func84, Try.ntmps84
  go_wp2
  go_ret
  exact ⟨by rw [← Ht.out]; rfl, rfl⟩
set_option maxRecDepth 100000 in
theorem movedStr_c (n : Nat) (l : List Int) (u : Int) (b : Nat) (v : Value) (w : World) (hv : Ints w v l) (hn : 1 ≤ n ∧ n ≤ 24) (hl : ∀ x ∈ l, 0 ≤ x ∧ x < n) (hlen : l.length ≤ n) (hu : 0 ≤ u ∧ u ≤ 100) (h1 : w.cell? ⟨b, 0, none⟩ = some (.int .i64 u)) :
    Calls Try.prog 80 #[.agg #[.int .i64 n, v], .func (.func 84) #[] #[.pointer (some ⟨b, 0, none⟩)]] w (RR n (strL n l u) w) := by
  obtain ⟨A, c, hve, _, _⟩ := hv.form0
  obtain ⟨m, hm⟩ : ∃ m, m = l.length := ⟨_, rfl⟩
  rw [← hm] at hve hlen
  subst hve
  have hx1 := one_box w (.cells #[.int .i64 n, .slice A m c] 29)
  have Hp := Lib.hid (RVar.new (T := 29) w n (.slice A m c))
  have hst := ROut.start0 (w.alloc (.cells #[.int .i64 n, .slice A m c] 29))
  have Hst := Lib.hid hst
  have Hv := Lib.hid (hv.ext hx1)
  have Hk := Lib.hid (hx1.cell_of h1)
  have Hm := Lib.hid hm
  have Hl := Lib.hid hl
  have Hx1 := Lib.hid hx1
  clear hv hm hl hst h1 hx1
  go_enter Try.func80, Try.ntmps80
  go_wp2
  go_loopw [5, 11] (fun o i wr => ∃ j : Nat, j ≤ m ∧ i = .int .i64 j ∧ Hid (ROut (w.alloc (.cells #[.int .i64 n, .slice A m c] 29)) wr o (timL u (l.take j)))) (fun _ i _ => m - (intOf i).toNat)
  case atStart => exact ⟨0, Nat.zero_le _, rfl, Hst.out⟩
  case round =>
    obtain ⟨j, hj, rfl, hr⟩ := hrel
    have hll : (timL u (l.take j)).length ≤ j := by rw [timL_len, List.length_take]; omega
    have hcp0 := (Hp.out.ext hr.out.2.2).c0
    have hcp1 := (Hp.out.ext hr.out.2.2).c1
    by_cases hjm : j < m
    · obtain ⟨ad, c', hA, _, _⟩ := Hv.out.form (by rw [← Hm.out]; omega)
      rw [← Hm.out] at hA
      obtain ⟨rfl, rfl⟩ : A = some ad ∧ c = c' := by simpa using hA
      obtain ⟨x, hx⟩ : ∃ x, l[j]? = some x := ⟨_, List.getElem?_eq_getElem (by rw [← Hm.out]; omega)⟩
      have hc := (Hv.out.ext hr.out.2.2).cell hx
      have hck := hr.out.2.2.cell_of Hk.out
      have Hn := Lib.hid (timL_take (u := u) hx)
      have hxr := Hl.out x (List.mem_of_getElem? hx)
      have hsz := hr.out.size
      have hux : 0 ≤ u * x ∧ u * x ≤ 100 * 24 := ⟨Int.mul_nonneg hu.1 hxr.1, Int.mul_le_mul hu.2 (by omega) hxr.1 (by omega)⟩
      obtain ⟨t, ht⟩ : ∃ t, t = u * x := ⟨_, rfl⟩
      rw [← ht] at hux
      have Ht := Lib.hid ht
      clear hx hA ht
      go_wp2_with (first | (go_at_call 84; refine (str1_c x u b _ (by omega) hu hck).mono ?_; rintro e wz ⟨rfl, rfl⟩; rw [← Ht.out]) | (at_builtin; refine wp_append1 rfl (.tmp 15) (.tmp 19) rfl rfl rfl hr.out.2.1 (by unfold I64; omega) (by omega) hsz ?_; intro v' w' ho hg hb hat))
      go_roundw
      case rel => exact ⟨j + 1, by omega, by go_num, by unfold Hid; rw [Hn.out, ← Ht.out]; exact hr.out.app ho hg⟩
      case measure => simp [intOf]; omega
    · obtain rfl : j = m := by omega
      have Hall : Hid (timL u (l.take j) = timL u l) := by unfold Hid; rw [List.take_of_length_le (by rw [← Hm.out]; exact Nat.le_refl _)]
      have Ho := Lib.hid (show Own _ _ _ (timL u l) by rw [← Hall.out]; exact hr.out.2.1)
      have hlr : (timL u l).length ≤ 100000 := by rw [timL_len, ← Hm.out]; omega
      go_wp2_with (first | (go_at_call 64; refine (rhythmOf_c n (timL u l) _ _ Ho.out.ints (by omega) (by omega) (by omega)).mono ?_; rintro e w2 ⟨u2, rfl, ho2, hx2⟩; obtain ⟨Au, nu, cu, rfl⟩ := ho2.form; have Hr := Lib.hid (ret_fin (n := (n : Int)) (hr.out.1.ext hx2) ho2 hr.out.size (hr.out.2.2.tr hx2)); have hd0 := (hr.out.1.ext hx2).c0; have hf0 := (hr.out.1.ext hx2).f 0; have hd1 := ((hr.out.1.ext hx2).set0 (m := (n : Int))).c1; have hf1 := ((hr.out.1.ext hx2).set0 (m := (n : Int))).f 1; simp only [World.size_alloc] at hd0 hf0 hd1 hf1))
      have hcf0 := Hr.out.1.c0
      have hcf1 := Hr.out.1.c1
      simp only [World.size_alloc] at hcf0 hcf1
      have ho3 := Hr.out.2.1.base (B' := w.heap.size) (by simp)
      have hx3 := Hx1.out.tr Hr.out.2.2
      simp only [World.size_alloc] at ho3 hx3
      exact bodyPost_ret (v := .agg #[.int .i64 n, .slice Au nu cu]) (by simp [results, Try.results80, hcf0, hcf1, go_sem]) rfl ⟨_, rfl, ho3, hx3⟩
set_option maxRecDepth 100000 in
theorem stretched_c (n : Nat) (l : List Int) (z : Int) (v : Value) (w : World) (hv : Ints w v l) (hn : 1 ≤ n ∧ n ≤ 24) (hl : ∀ x ∈ l, 0 ≤ x ∧ x < n) (hlen : l.length ≤ n) (hz : 0 ≤ z ∧ z ≤ 100) : Calls Try.prog 56 #[.agg #[.int .i64 n, v], .int .i64 z] w (RR n (strL n l z) w) := by
  obtain ⟨A, c, hve, _, _⟩ := hv.form0
  obtain ⟨m, hm⟩ : ∃ m, m = l.length := ⟨_, rfl⟩
  rw [← hm] at hve
  subst hve
  obtain ⟨w1, hw1⟩ : ∃ w1, w1 = w.alloc (.cells #[.int .i64 n, .slice A m c] 29) := ⟨_, rfl⟩
  have hx1 : Ext w w1 := by rw [hw1]; exact one_box w _
  have hx2 := one_box w1 (.cells #[.int .i64 z] 3)
  have hs1 : w1.heap.size = w.heap.size + 1 := by rw [hw1]; simp
  have hk1 : ((w1.alloc (.cells #[.int .i64 z] 3)).alloc (.cells #[.int .i64 0, .slice none 0 0] 29)).cell? ⟨w.heap.size + 1, 0, none⟩ = some (.int .i64 z) := by
    rw [← hs1, World.cell?_alloc_lt _ _ _ (by simp)]
    exact cell_new0 _ _ _
  have hv0 := RVar.new (T := 29) (w1.alloc (.cells #[.int .i64 z] 3)) 0 (.slice none 0 0)
  have hx3 := one_box (w1.alloc (.cells #[.int .i64 z] 3)) (.cells #[.int .i64 0, .slice none 0 0] 29)
  have Hv := Lib.hid (((hv.ext hx1).ext hx2).ext hx3)
  have Hl := Lib.hid hl
  have Hlen := Lib.hid hlen
  have Hx3 := Lib.hid hx3
  have Hx1 := Lib.hid (hx1.tr hx2)
  have Hv0 := Lib.hid hv0
  subst hw1
  have Hk1 := Lib.hid hk1
  clear hv hm hl hlen hx1 hx2 hx3 hk1 hs1 hv0
  go_enter Try.func56, Try.ntmps56
  go_wp2_with (first | (go_at_call 80; refine (movedStr_c n l z _ _ _ Hv.out hn Hl.out Hlen.out hz Hk1.out).mono ?_; rintro e w2 ⟨u2, rfl, ho2, hx4⟩; obtain ⟨Au, nu, cu, rfl⟩ := ho2.form; have Hr := Lib.hid (ret_fin (n := (n : Int)) (Hv0.out.ext hx4) ho2 (by simp) (Hx3.out.tr hx4)); have hd0 := (Hv0.out.ext hx4).c0; have hf0 := (Hv0.out.ext hx4).f 0; have hd1 := ((Hv0.out.ext hx4).set0 (m := (n : Int))).c1; have hf1 := ((Hv0.out.ext hx4).set0 (m := (n : Int))).f 1; simp only [World.size_alloc] at hd0 hf0 hd1 hf1))
  have hcf0 := Hr.out.1.c0
  have hcf1 := Hr.out.1.c1
  simp only [World.size_alloc] at hcf0 hcf1
  have ho3 := Hr.out.2.1.base (B' := w.heap.size) (by simp; omega)
  have hx5 := Hx1.out.tr Hr.out.2.2
  simp only [World.size_alloc] at ho3 hx5
  exact bodyPost_ret (v := .agg #[.int .i64 n, .slice Au nu cu]) (by simp [results, Try.results56, hcf0, hcf1, go_sem]) rfl ⟨_, rfl, ho3, hx5⟩
end Go.Proofs.Ytaiigheknmndnaa
