/- Contracts: the code of a rhythm, later; l04After. -/
import Derived.Test.YtaiigheknmndnaaPureQ
import Derived.Test.YtaiigheknmndnaaBits
import Derived.Outline
import Derived.Deep.RegionLaw
namespace Go.Proofs.Ytaiigheknmndnaa
open Go.RowKit
theorem ext_ofD {w w' : World} (h : Ext w.drew w') : Ext w w' := ⟨h.os, h.tape, h.output, h.size, h.block⟩
set_option maxRecDepth 100000 in
theorem code_c (n : Nat) (l : List Int) (v : Value) (w : World) (hv : Ints w v l) (hn : 1 ≤ n ∧ n ≤ 24) (hl : ∀ x ∈ l, 0 ≤ x ∧ x < n) (hlen : l.length ≤ n) : Calls Try.prog 73 #[.agg #[.int .i64 n, v]] w (RI (cod n l) w) := by
  obtain ⟨A, c, hve, _, _⟩ := hv.form0
  obtain ⟨m, hm⟩ : ∃ m, m = l.length := ⟨_, rfl⟩
  rw [← hm] at hve hlen
  subst hve
  have hx := one_box w (.cells #[.int .i64 (n : Int), .slice A m c] 29)
  have hr := RVar.new (T := 29) w (n : Int) (.slice A m c)
  have hc0 := hr.c0
  have hc1 := hr.c1
  have Hv := Lib.hid (hv.ext hx)
  have Hx := Lib.hid hx
  have Hl := Lib.hid hl
  have Hm := Lib.hid hm
  obtain ⟨hn1, hn24⟩ := hn
  clear hv hx hr hl hm
  go_enter Try.func73, Try.ntmps73
  go_wp2
  go_loop [3, 9] (fun o i => ∃ k q : Nat, k ≤ m ∧ q < 16777216 ∧ i = .int .i64 k ∧ o = .int .i64 q ∧ Hid (q = cod n (l.take k))) (fun _ i => m - (intOf i).toNat)
  case atStart => exact ⟨0, 0, Nat.zero_le _, by omega, rfl, rfl, rfl⟩
  case round =>
    obtain ⟨k, q, hk, hq, rfl, rfl, hgo⟩ := hrel
    by_cases hkm : k < m
    · obtain ⟨ad, c', hA, _, _⟩ := Hv.out.form (by rw [← Hm.out]; omega)
      injection hA with eA eB eC
      subst eA
      clear eB eC
      obtain ⟨x, hx⟩ : ∃ x, l[k]? = some x := ⟨_, List.getElem?_eq_getElem (by rw [← Hm.out]; exact hkm)⟩
      have hxr := Hl.out x (List.mem_of_getElem? hx)
      have hc := Hv.out.cell hx
      have hnew := cod_take (n := n) hx
      have hlt : cod n (l.take (k + 1)) < 16777216 := cod_lt _ hn1 hn24
      rw [hnew, ← hgo.out] at hlt
      rw [← hgo.out] at hnew
      obtain ⟨a, rfl⟩ : ∃ a : Nat, x = a := ⟨x.toNat, by omega⟩
      simp only [Int.toNat_natCast] at hnew hlt
      obtain ⟨s, hs⟩ : ∃ s, s = n - 1 - a := ⟨_, rfl⟩
      rw [← hs] at hnew hlt
      have hs1 : (n : Int) - 1 - (a : Int) = (s : Int) := by omega
      have hs2 : s ≤ 23 := by omega
      have hpl : 2 ^ s < 16777216 := Nat.pow_lt_pow_right (a := 2) (by decide) (show s < 24 by omega)
      have hor := i64_or q (2 ^ s) (by omega) (by omega)
      have hw : IntKind.i64.wrap ((2 : Int) ^ s) = ((2 ^ s : Nat) : Int) := by
        rw [show (2 : Int) ^ s = ((2 ^ s : Nat) : Int) by rw [Int.natCast_pow]; rfl]
        exact wrap_nat (by omega)
      have hor2 : bits .or .i64 (q : Int) ((2 : Int) ^ s) = ((q ||| 2 ^ s : Nat) : Int) := by
        rw [show (2 : Int) ^ s = ((2 ^ s : Nat) : Int) by rw [Int.natCast_pow]; rfl]
        exact hor
      have Hn := Lib.hid hnew.symm
      clear hx hnew hs
      go_wp2
      go_round
      case rel => exact ⟨k + 1, q ||| 2 ^ s, by omega, hlt, by go_num, rfl, Hn⟩
      case measure => simp [intOf]; omega
    · obtain rfl : k = m := by omega
      have H : Hid (q = cod n l) := by
        have := hgo.out
        rw [List.take_of_length_le (by rw [← Hm.out]; exact Nat.le_refl _)] at this
        exact this
      go_wp2
      go_ret
      exact ⟨by rw [← H.out]; rfl, Hx.out⟩
set_option maxRecDepth 100000 in
set_option maxHeartbeats 1000000 in
theorem l04After_c (n : Nat) (l m : List Int) (v u : Value) (w : World) (hv : Ints w v l) (hu : Ints w u m) (hn : 1 ≤ n ∧ n ≤ 24) (hl : ∀ x ∈ l, 0 ≤ x ∧ x < n) (hm : ∀ x ∈ m, 0 ≤ x ∧ x < n) :
    Calls Try.prog 93 #[.agg #[.int .i64 n, v], .agg #[.int .i64 n, u]] w (RB (cod n m < cod n l) w) := by
  obtain ⟨A, c, hve, _, _⟩ := hv.form0
  obtain ⟨A', c', hue, _, _⟩ := hu.form0
  obtain ⟨k, hk⟩ : ∃ k, k = l.length := ⟨_, rfl⟩
  obtain ⟨k', hk'⟩ : ∃ k', k' = m.length := ⟨_, rfl⟩
  rw [← hk] at hve
  rw [← hk'] at hue
  subst hve
  subst hue
  have hx := two_boxes w (.cells #[.int .i64 (n : Int), .slice A k c] 29) (.cells #[.int .i64 (n : Int), .slice A' k' c'] 29)
  have ha := (RVar.new (T := 29) w (n : Int) (.slice A k c)).ext (one_box _ (.cells #[.int .i64 (n : Int), .slice A' k' c'] 29))
  have hb : RVar ((w.alloc (.cells #[.int .i64 (n : Int), .slice A k c] 29)).alloc (.cells #[.int .i64 (n : Int), .slice A' k' c'] 29)) (w.heap.size + 1) (n : Int) (.slice A' k' c') := by
    simpa only [World.size_alloc] using RVar.new (T := 29) (w.alloc (.cells #[.int .i64 (n : Int), .slice A k c] 29)) (n : Int) (.slice A' k' c')
  have hc0 := ha.c0
  have hc1 := ha.c1
  have hd0 := hb.c0
  have hd1 := hb.c1
  have Hv := Lib.hid (hv.ext hx)
  have Hu := Lib.hid (hu.ext hx)
  have Hx := Lib.hid hx
  have Hl := Lib.hid hl
  have Hm := Lib.hid hm
  obtain ⟨hn1, hn24⟩ := hn
  clear hv hu hx hk hk' ha hb hl hm
  go_enter Try.func93, Try.ntmps93
  go_wp2
  go_loop [5] (fun i => ∃ p : Nat, p ≤ n ∧ i = .int .i64 p ∧ Hid (∀ q : Nat, q < p → ((q : Int) ∈ l ↔ (q : Int) ∈ m))) (fun i => n - (intOf i).toNat)
  case atStart => exact ⟨0, Nat.zero_le _, rfl, fun q hq => by omega⟩
  case round =>
    obtain ⟨p, hp, rfl, hs⟩ := hrel
    by_cases hpn : p < n
    · by_cases h1 : (p : Int) ∈ l
      · by_cases h2 : (p : Int) ∈ m
        · have Hn : Hid (∀ q : Nat, q < p + 1 → ((q : Int) ∈ l ↔ (q : Int) ∈ m)) := fun q hq => by
            by_cases e : q = p
            · subst e; exact ⟨fun _ => h2, fun _ => h1⟩
            · exact hs.out q (by omega)
          have H1 := Lib.hid h1
          have H2 := Lib.hid h2
          clear h1 h2
          have tok : True := trivial
          go_wp2_with (first | (go_at_call 76; clear tok; refine (l02Has_c l (p : Int) _ _ Hv.out).mono ?_; rintro e w1 ⟨b1, rfl, hb1, rfl⟩; obtain rfl := hb1.2 H1.out; clear hb1))
          go_wp2_with (first | (go_at_call 76; refine (l02Has_c m (p : Int) _ _ Hu.out).mono ?_; rintro e w1 ⟨b1, rfl, hb1, rfl⟩; obtain rfl := hb1.2 H2.out; clear hb1))
          go_round
          case rel => exact ⟨p + 1, by omega, by go_num, Hn⟩
          case measure => simp [intOf]; omega
        · have Hr := Lib.hid (cod_after Hl.out Hm.out hpn hs.out h1 h2)
          have H1 := Lib.hid h1
          have H2 := Lib.hid h2
          clear h1 h2
          have tok : True := trivial
          go_wp2_with (first | (go_at_call 76; clear tok; refine (l02Has_c l (p : Int) _ _ Hv.out).mono ?_; rintro e w1 ⟨b1, rfl, hb1, rfl⟩; obtain rfl := hb1.2 H1.out; clear hb1))
          go_wp2_with (first | (go_at_call 76; refine (l02Has_c m (p : Int) _ _ Hu.out).mono ?_; rintro e w1 ⟨b1, rfl, hb1, rfl⟩; obtain rfl := bool_f hb1 H2.out; clear hb1))
          go_ret
          exact RB.t Hr.out Hx.out
      · by_cases h2 : (p : Int) ∈ m
        · have Hr : Hid (¬ cod n m < cod n l) := by
            have := cod_after Hm.out Hl.out hpn (fun q hq => (hs.out q hq).symm) h2 h1
            unfold Hid
            omega
          have H1 := Lib.hid h1
          have H2 := Lib.hid h2
          clear h1 h2
          have tok : True := trivial
          go_wp2_with (first | (go_at_call 76; clear tok; refine (l02Has_c l (p : Int) _ _ Hv.out).mono ?_; rintro e w1 ⟨b1, rfl, hb1, rfl⟩; obtain rfl := bool_f hb1 H1.out; clear hb1))
          go_wp2_with (first | (go_at_call 76; refine (l02Has_c m (p : Int) _ _ Hu.out).mono ?_; rintro e w1 ⟨b1, rfl, hb1, rfl⟩; obtain rfl := hb1.2 H2.out; clear hb1))
          go_ret
          exact RB.f Hr.out Hx.out
        · have Hn : Hid (∀ q : Nat, q < p + 1 → ((q : Int) ∈ l ↔ (q : Int) ∈ m)) := fun q hq => by
            by_cases e : q = p
            · subst e; exact ⟨fun h => absurd h h1, fun h => absurd h h2⟩
            · exact hs.out q (by omega)
          have H1 := Lib.hid h1
          have H2 := Lib.hid h2
          clear h1 h2
          have tok : True := trivial
          go_wp2_with (first | (go_at_call 76; clear tok; refine (l02Has_c l (p : Int) _ _ Hv.out).mono ?_; rintro e w1 ⟨b1, rfl, hb1, rfl⟩; obtain rfl := bool_f hb1 H1.out; clear hb1))
          go_wp2_with (first | (go_at_call 76; refine (l02Has_c m (p : Int) _ _ Hu.out).mono ?_; rintro e w1 ⟨b1, rfl, hb1, rfl⟩; obtain rfl := bool_f hb1 H2.out; clear hb1))
          go_round
          case rel => exact ⟨p + 1, by omega, by go_num, Hn⟩
          case measure => simp [intOf]; omega
    · obtain rfl : p = n := by omega
      have Hr : Hid (¬ cod p m < cod p l) := by
        have := cod_same hn1 Hl.out Hm.out hs.out
        unfold Hid
        omega
      go_wp2
      go_ret
      exact RB.f Hr.out Hx.out
end Go.Proofs.Ytaiigheknmndnaa
