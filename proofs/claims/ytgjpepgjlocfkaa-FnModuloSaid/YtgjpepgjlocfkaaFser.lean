/- Contracts: SeriesTwo on both sides: the series of one over a pattern, modulo two. -/
import Derived.Test.YtgjpepgjlocfkaaFa
import Derived.Test.YtgjpepgjlocfkaaBits
import Derived.Test.YtgjpepgjlocfkaaPureL
namespace Go.Proofs.Ytgjpepgjlocfkaa
open Go.RowKit
theorem Ints.tail {w : World} {ad : Addr} {n c : Nat} {l : List Int} (h : Ints w (.slice (some ad) n c) l) (hl : 0 < l.length) : Ints w (.slice (some (ad.add 1)) (n - 1) (c - 1)) l.tail := by
  obtain ⟨A, c', he, h1, h2, h3⟩ := h
  simp only [Value.slice.injEq] at he
  obtain ⟨rfl, rfl, rfl⟩ := he
  refine ⟨some (ad.add 1), c - 1, by rw [List.length_tail], by rw [List.length_tail]; omega, by omega, fun k x hx => ?_⟩
  rw [List.getElem?_tail] at hx
  obtain ⟨hi, ad', he, hc⟩ := h3 (k + 1) x hx
  cases he
  refine ⟨hi, _, rfl, ?_⟩
  rw [← hc]
  congr 1
  unfold Addr.add
  split <;> simp_all <;> omega
def serStep (out : List Nat) (i : Nat) (c : Nat) (x : Int) : Nat := if x ≤ i then c ^^^ out.getD (i - x.toNat) 0 else c
def serBit (ps : List Int) (out : List Nat) (i : Nat) : Nat := ps.foldl (serStep out i) (if i = 0 then 1 else 0)
def ser (l : List Int) : Nat → List Nat
  | 0 => []
  | i + 1 => ser l i ++ [serBit l.tail (ser l i) i]
theorem ser_len (l : List Int) (i : Nat) : (ser l i).length = i := by
  induction i with
  | zero => rfl
  | succ i ih => rw [ser]; simp [ih]
theorem bit_xor {a b : Nat} (ha : a < 2) (hb : b < 2) : a ^^^ b < 2 := Nat.xor_lt_two_pow (n := 1) ha hb
theorem getD_lt2 {l : List Nat} (h : ∀ x ∈ l, x < 2) (k : Nat) : l.getD k 0 < 2 := by
  by_cases hk : k < l.length
  · have : l.getD k 0 ∈ l := by simp [List.getD, List.getElem?_eq_getElem hk]
    exact h _ this
  · simp [List.getD, List.getElem?_eq_none (l := l) (i := k) (by omega)]
theorem serStep_lt {out : List Nat} (h : ∀ x ∈ out, x < 2) (i : Nat) {c : Nat} (hc : c < 2) (x : Int) : serStep out i c x < 2 := by
  unfold serStep
  split
  · exact bit_xor hc (getD_lt2 h _)
  · exact hc
theorem serFold_lt {out : List Nat} (h : ∀ x ∈ out, x < 2) (i : Nat) : ∀ (ps : List Int) {c : Nat}, c < 2 → ps.foldl (serStep out i) c < 2 := by
  intro ps
  induction ps with
  | nil => intro c hc; exact hc
  | cons x t ih => intro c hc; exact ih (serStep_lt h i hc x)
theorem ser_lt (l : List Int) (i : Nat) : ∀ x ∈ ser l i, x < 2 := by
  induction i with
  | zero => intro x hx; cases hx
  | succ i ih =>
    intro x hx
    rw [ser] at hx
    rcases List.mem_append.1 hx with h | h
    · exact ih x h
    · simp at h
      rw [h]
      exact serFold_lt ih i _ (by split <;> omega)
def serI (l : List Int) (k : Int) : List Int := if patB l = true ∧ 0 ≤ k ∧ k ≤ 60 then esI (ser l k.toNat) else []
theorem serI_t {l : List Int} {n : Nat} (h : PatOk l) (hn : n ≤ 60) : serI l n = esI (ser l n) := by unfold serI; rw [if_pos ⟨patB_t h, by omega, by omega⟩]; rfl
theorem serI_f {l : List Int} {n : Int} (h : ¬ (PatOk l ∧ 0 ≤ n ∧ n ≤ 60)) : serI l n = [] := by
  unfold serI; rw [if_neg (fun h' => h ⟨(patB_iff _).1 h'.1, h'.2⟩)]
theorem serI_len (l : List Int) (n : Int) : (serI l n).length ≤ 1000000 := by
  unfold serI
  split
  · rw [esI_len, ser_len]; omega
  · exact Nat.zero_le _
theorem esI_at {es : List Nat} {k n : Nat} (h : es[k]? = some n) : (esI es)[k]? = some (n : Int) := by
  unfold esI; rw [List.getElem?_map, h]; rfl
theorem fold_take {f : Nat → Int → Nat} {l : List Int} {c k : Nat} {x : Int} (hx : l[k]? = some x) : (l.take (k + 1)).foldl f c = f ((l.take k).foldl f c) x := by
  rw [take_succ hx, List.foldl_append]; rfl
set_option maxHeartbeats 2000000 in
theorem seriesTwo_c (l : List Int) (n : Int) (v : Value) (w : World) (hv : Ints w v l) : Calls Try.prog 13 #[v, .int .i64 n] w (RL (serI l n) w) := by
  by_cases hp : PatOk l
  · have hlen := hp.len
    obtain ⟨ad, c, rfl, hlc, hcm⟩ := hv.form hp.1
    have Hv := Lib.hid hv
    have Hp := Lib.hid hp
    have Ht := Lib.hid (hv.tail hp.1)
    clear hv
    by_cases hn : 0 ≤ n ∧ n ≤ 60
    · obtain ⟨n, rfl⟩ := Int.eq_ofNat_of_zero_le hn.1
      have H := Lib.hid (serI_t (n := n) hp (by omega))
      have hl1 : (1 : Int) ≤ (l.length : Int) := by omega
      have hlt : Hid (l.tail.length = l.length - 1) := List.length_tail
      clear hp
      have hn60 : n ≤ 60 := by omega
      go_enter Try.func13, Try.ntmps13
      go_wp2_with (first | (go_at_call 20; refine (patternOk_c l _ _ Hv.out).mono ?_; rintro e w1 ⟨b, rfl, hb, rfl⟩; obtain rfl := hb.2 Hp.out; clear hb) | (go_at_call 17; refine (within_t _ ?_).mono ?_; (focus omega); rintro e w1 ⟨rfl, rfl⟩) | (go_at_call 17; refine (within_f _ ?_).mono ?_; (focus omega); rintro e w1 ⟨rfl, rfl⟩))
      go_loopw [5, 19] (fun o i wr => ∃ k : Nat, k ≤ n ∧ i = .int .i64 k ∧ Hid (Own wr w.heap.size o (esI (ser l k))) ∧ Ext w wr) (fun _ i _ => n - (intOf i).toNat)
      case atStart => exact ⟨0, Nat.zero_le _, rfl, Own.nil w w.heap.size, Below.refl _ _⟩
      case round =>
        obtain ⟨k, hk, rfl, hown, hx0⟩ := hrel
        by_cases hkn : k < n
        · have Hlt2 := Lib.hid (ser_lt l k)
          obtain ⟨b0, c0, hb0, hc0, hc0l⟩ : ∃ (b0 : Bool) (c0 : Nat), ((k : Int) == 0) = b0 ∧ Hid ((if k = 0 then 1 else 0) = c0 ∧ c0 = if b0 = true then 1 else 0) ∧ c0 < 2 := by
            by_cases h : k = 0
            · exact ⟨true, 1, by simp [h], ⟨by simp [h], rfl⟩, by omega⟩
            · exact ⟨false, 0, by rw [beq_eq_false_iff_ne]; omega, ⟨by simp [h], rfl⟩, by omega⟩
          have hk0i : b0 = false ∨ b0 = true := by cases b0 <;> simp
          rcases hk0i with rfl | rfl
          all_goals
            obtain rfl := hc0.out.2
            have Hc0 : Hid ((if k = 0 then 1 else 0) = _) := hc0.out.1
            clear hc0 hc0l
            go_wp2
          all_goals
            first
              | (have ht : Ints w (.slice (some ad) (l.length - 1) 0) l.tail := ⟨some ad, 0, by rw [List.length_tail], by rw [List.length_tail]; omega, Nat.zero_le _, fun k x hx => by
                    have := (List.getElem?_eq_some_iff.1 hx).1
                    rw [List.length_tail] at this
                    omega⟩
                 generalize Value.slice (some ad) (l.length - 1) 0 = tv at ht ⊢)
              | (have ht : Ints w (.slice (some ⟨ad.block, ad.off + 1, none⟩) (l.length - 1) (c - 1)) l.tail := Hv.out.tail Hp.out.1
                 generalize Value.slice (some ⟨ad.block, ad.off + 1, none⟩) (l.length - 1) (c - 1) = tv at ht ⊢)
            have hfm := ht.form0
            rw [List.length_tail] at hfm
            obtain ⟨A', c', rfl, hlc', hcm'⟩ := hfm
            have Ht' := Lib.hid ht
            clear ht
            obtain ⟨N1, hN1⟩ : ∃ N1, N1 = l.length - 1 := ⟨_, rfl⟩
            rw [← hN1]
            rw [← hN1] at Ht' hlc'
            have HN1 := Lib.hid hN1
            have hN2 : N1 ≤ 12 := by omega
            clear hN1
            go_loop [7, 27] (fun g j => ∃ (m c2 : Nat), m ≤ N1 ∧ j = .int .i64 m ∧ g = .int .i64 c2 ∧ c2 < 2 ∧ Hid (c2 = (l.tail.take m).foldl (serStep (ser l k) k) (if k = 0 then 1 else 0))) (fun _ j => N1 - (intOf j).toNat)
            case atStart => first | exact ⟨0, 1, Nat.zero_le _, rfl, rfl, by omega, Hc0.out.symm⟩ | exact ⟨0, 0, Nat.zero_le _, rfl, rfl, by omega, Hc0.out.symm⟩
            case round =>
              obtain ⟨m, c2, hm, rfl, rfl, hc2, hfold⟩ := hrel
              by_cases hmn : m < N1
              · have hml : m < l.tail.length := by rw [List.length_tail, ← HN1.out]; exact hmn
                obtain ⟨ad1, c1, hA, _, _⟩ := Ht'.out.form (by omega)
                obtain ⟨rfl, rfl⟩ : A' = some ad1 ∧ c' = c1 := by
                  simp only [Value.slice.injEq] at hA
                  exact ⟨hA.1, hA.2.2⟩
                obtain ⟨x, hx⟩ : ∃ x, l.tail[m]? = some x := ⟨_, List.getElem?_eq_getElem hml⟩
                have hxl : l[m + 1]? = some x := by rw [← hx, List.getElem?_tail]
                have hx12 := Hp.out.at_ hxl
                have hxg := Hp.out.2.2.ge hxl
                obtain ⟨nx, rfl⟩ := Int.eq_ofNat_of_zero_le hx12.1
                have hcx := (Ht'.out.ext hx0).cell hx
                by_cases hxk : nx ≤ k
                · obtain ⟨g, c5, hve5, hBg, hgl, hlc5, hcell5, hfree5⟩ := hown.out.shape (by rw [esI_len, ser_len]; omega)
                  rw [esI_len, ser_len] at hve5 hlc5
                  subst hve5
                  have hkl : k - nx < (ser l k).length := by rw [ser_len]; omega
                  obtain ⟨y, hy⟩ : ∃ y, (ser l k)[k - nx]? = some y := ⟨_, List.getElem?_eq_getElem hkl⟩
                  have hy2 := Hlt2.out y (List.mem_of_getElem? hy)
                  have hcy := hcell5 (k - nx) y (esI_at hy)
                  have hin : (0 : Int) ≤ (k : Int) - nx ∧ (k : Int) - nx < k := by omega
                  have hnat : ((k : Int) - nx).toNat = k - nx := by omega
                  have hxor := i64_xor c2 y (by omega) (by omega)
                  have hz2 : c2 ^^^ y < 2 := bit_xor hc2 hy2
                  have Hn : Hid (c2 ^^^ y = (l.tail.take (m + 1)).foldl (serStep (ser l k) k) (if k = 0 then 1 else 0)) := by
                    unfold Hid
                    rw [fold_take hx, ← hfold.out]
                    unfold serStep
                    rw [if_pos (by omega)]
                    simp [List.getD, hy]
                  generalize c2 ^^^ y = z at *
                  clear hA hx hxl hxg hcell5 hfree5 hy hkl hml
                  go_wp2
                  go_round
                  case rel => exact ⟨m + 1, z, by omega, by go_num, rfl, hz2, Hn⟩
                  case measure => simp [intOf]; omega
                · have Hn : Hid (c2 = (l.tail.take (m + 1)).foldl (serStep (ser l k) k) (if k = 0 then 1 else 0)) := by
                    unfold Hid
                    rw [fold_take hx, ← hfold.out]
                    unfold serStep
                    rw [if_neg (by omega)]
                  clear hA hx hxl hxg hml
                  go_wp2
                  go_round
                  case rel => exact ⟨m + 1, c2, by omega, by go_num, rfl, hc2, Hn⟩
                  case measure => simp [intOf]; omega
              · have Hn : Hid (esI (ser l (k + 1)) = esI (ser l k) ++ [(c2 : Int)]) := by
                  have hmn' : m = l.tail.length := by rw [List.length_tail, ← HN1.out]; omega
                  unfold Hid
                  rw [ser, esI_snoc]
                  unfold serBit
                  rw [hfold.out, hmn', List.take_length]
                go_wp2_with (first | (at_builtin; refine wp_append1 rfl (.tmp 43) (.tmp 45) rfl rfl rfl hown.out (by unfold I64; omega) (by rw [esI_len, ser_len]; omega) hx0.size ?_; intro v' w2 ho hg hb2 hat))
                go_roundw
                case rel => first | exact ⟨k + 1, by omega, by go_num, by unfold Hid; rw [Hn.out]; exact ho, hx0.trans hb2⟩ | exact ⟨_, _, _, _, _, ⟨k + 1, by omega, by go_num, by unfold Hid; rw [Hn.out]; exact ho, hx0.trans hb2⟩, rfl, rfl, rfl, rfl, rfl⟩
                case measure => simp [intOf]; omega
        · have Hk : Hid (k = n) := by show k = _; omega
          go_wp2
          go_ret
          have := hown.out
          rw [Hk.out] at this
          exact ⟨_, rfl, by rw [H.out]; exact this, hx0⟩
    · have H := Lib.hid (serI_f (l := l) (n := n) (fun h => hn h.2))
      clear hp
      go_enter Try.func13, Try.ntmps13
      go_wp2_with (first | (go_at_call 20; refine (patternOk_c l _ _ Hv.out).mono ?_; rintro e w1 ⟨b, rfl, hb, rfl⟩; obtain rfl := hb.2 Hp.out; clear hb) | (go_at_call 17; refine (within_t _ ?_).mono ?_; (focus omega); rintro e w1 ⟨rfl, rfl⟩) | (go_at_call 17; refine (within_f _ ?_).mono ?_; (focus omega); rintro e w1 ⟨rfl, rfl⟩))
      go_ret
      exact ⟨_, rfl, by rw [H.out]; exact Own.nil _ _, Below.refl _ _⟩
  · have H := Lib.hid (serI_f (l := l) (n := n) (fun h => hp h.1))
    have Hp := Lib.hid hp
    clear hp
    go_enter Try.func13, Try.ntmps13
    go_wp2_with (first | (go_at_call 20; refine (patternOk_c l _ _ hv).mono ?_; rintro e w1 ⟨b, rfl, hb, rfl⟩; obtain rfl := bool_f hb Hp.out; clear hb))
    go_ret
    exact ⟨_, rfl, by rw [H.out]; exact Own.nil _ _, Below.refl _ _⟩
end Go.Proofs.Ytgjpepgjlocfkaa
