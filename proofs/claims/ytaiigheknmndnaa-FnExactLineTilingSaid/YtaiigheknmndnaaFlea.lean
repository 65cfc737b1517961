/- Contracts: l13Least and, with it, the reference's LinePeriod and PeriodEntries. -/
import Derived.Test.YtaiigheknmndnaaFline
namespace Go.Proofs.Ytaiigheknmndnaa
open Go.RowKit
theorem mem_esI {n : Nat} {es : List Nat} : (n : Int) ∈ esI es ↔ n ∈ es := by
  unfold esI
  rw [List.mem_map]
  constructor
  · rintro ⟨a, ha, h⟩
    have : a = n := by omega
    rw [← this]; exact ha
  · intro h; exact ⟨n, h, rfl⟩
theorem esI_get {es : List Nat} {k n : Nat} (h : es[k]? = some n) : (esI es)[k]? = some (n : Int) := by
  unfold esI; rw [List.getElem?_map, h]; rfl
/-- no smaller period repeats the entries -/
def LeastP (p : Nat) (es : List Nat) : Prop := ∀ q, 0 < q → q < p → p % q = 0 → ∃ t, t ∈ es ∧ ¬ (t + q) % p ∈ es
theorem all_snoc {es : List Nat} {k t : Nat} {P : Nat → Prop} (ht : es[k]? = some t) : (∀ e ∈ es.take (k + 1), P e) ↔ (∀ e ∈ es.take k, P e) ∧ P t := by
  rw [List.take_add_one, ht]
  constructor
  · intro h; exact ⟨fun e he => h e (List.mem_append_left _ he), h t (by simp)⟩
  · rintro ⟨h1, h2⟩ e he
    rcases List.mem_append.1 he with h | h
    · exact h1 e h
    · simp at h; rw [h]; exact h2
def LeaPost (p : Nat) (v : Value) (w : World) (e : Ending) (w' : World) : Prop := e = .returned (.tuple #[.int .i64 p, v]) ∧ Ext w w'
set_option maxHeartbeats 2000000 in
theorem l13Least_c (p : Nat) (es : List Nat) (v : Value) (w : World) (hv : Ints w v (esI es)) (hp : p ≤ 100000) (hlt : ∀ e ∈ es, e < p) (hl : LeastP p es) (hlen : es.length ≤ 5000) :
    Calls Try.prog 88 #[.int .i64 p, v] w (LeaPost p v w) := by
  obtain ⟨A, c, hve, hlc, hcm⟩ := hv.form0
  rw [esI_len] at hve hlc
  subst hve
  have Hv := Lib.hid hv
  have Hlt := Lib.hid hlt
  have Hl := Lib.hid hl
  clear hv hlt hl
  go_enter Try.func88, Try.ntmps88
  go_wp2
  go_loopw [6] (fun i wr => ∃ q : Nat, 1 ≤ q ∧ q ≤ p + 1 ∧ i = .int .i64 q ∧ Ext w wr) (fun i _ => p + 2 - (intOf i).toNat)
  case atStart => exact ⟨1, by omega, by omega, rfl, Below.refl _ _⟩
  case round =>
    obtain ⟨q, hq1, hq2, rfl, hx⟩ := hrel
    by_cases hqp : q < p
    · have h1 : (1 : Int) ≤ q := by omega
      by_cases hd : p % q = 0
      · have hb : (((p : Int) % (q : Int)) != 0) = false := by rw [← Int.natCast_emod, hd]; rfl
        have Hd := Lib.hid hd
        clear hd
        go_wp2
        go_loopw [7, 8, 23] (fun g o i wr2 => ∃ (k : Nat) (b : Bool) (l2 : List Int), k ≤ es.length ∧ i = .int .i64 k ∧ g = .bool b ∧ l2.length ≤ k ∧ Hid (b = true ↔ ∀ e ∈ es.take k, (e + q) % p ∈ es) ∧ Hid (Own wr2 w.heap.size o l2) ∧ Ext w wr2) (fun _ _ i _ => es.length - (intOf i).toNat)
        case atStart => exact ⟨0, true, [], Nat.zero_le _, rfl, rfl, Nat.le_refl _, by simp [Hid], Own.empty hx.size, hx.alloc hx.size _⟩
        case round =>
          obtain ⟨k, b, l2, hk, rfl, rfl, hl2, hg, hown, hxx⟩ := hrel
          by_cases hkl : k < es.length
          · obtain ⟨ad, c', hA, _, _⟩ := Hv.out.form (by rw [esI_len]; omega)
            obtain ⟨rfl, rfl⟩ : A = some ad ∧ c = c' := by simpa [esI_len] using hA
            obtain ⟨t, ht⟩ : ∃ y, es[k]? = some y := ⟨_, List.getElem?_eq_getElem hkl⟩
            have htp := Hlt.out t (List.mem_of_getElem? ht)
            have hc := (Hv.out.ext hxx).cell (esI_get ht)
            have hp1 : (1 : Int) ≤ p := by omega
            have Ht := Lib.hid ht
            clear hA ht
            cases b with
            | false =>
              have Hg2 : Hid (false = true ↔ ∀ e ∈ es.take (k + 1), (e + q) % p ∈ es) := by
                unfold Hid
                rw [all_snoc Ht.out, ← hg.out]
                simp
              by_cases htq : t < q
              · go_wp2_with (first | (at_builtin; refine wp_append1 rfl (.tmp 40) (.tmp 42) rfl rfl rfl hown.out (by unfold I64; omega) (by omega) hxx.size ?_; intro v' w' ho hg3 hb3 hat))
                go_roundw
                case rel => exact ⟨k + 1, false, _, by omega, by go_num, rfl, by simp; omega, Hg2, ho, hxx.trans hb3⟩
                case measure => simp [intOf]; omega
              · go_wp2
                go_roundw
                case rel => exact ⟨k + 1, false, l2, by omega, by go_num, rfl, by omega, Hg2, hown.out, hxx⟩
                case measure => simp [intOf]; omega
            | true =>
              have Hg2 : ∀ b2, (b2 = true ↔ ((t : Int) + q) % p ∈ esI es) → Hid (b2 = true ↔ ∀ e ∈ es.take (k + 1), (e + q) % p ∈ es) := by
                intro b2 hb2
                unfold Hid
                rw [all_snoc Ht.out, ← hg.out, hb2, ← mem_esI]
                simp
              have HG := Lib.hid Hg2
              clear Hg2
              by_cases htq : t < q
              · go_wp2_with (first | (go_at_call 76; refine (l02Has_c (esI es) _ _ _ (Hv.out.ext hxx)).mono ?_; rintro e wz ⟨b2, rfl, hb2, rfl⟩) | (at_builtin; refine wp_append1 rfl (.tmp 40) (.tmp 42) rfl rfl rfl hown.out (by unfold I64; omega) (by omega) hxx.size ?_; intro v' w' ho hg3 hb3 hat))
                go_roundw
                case rel => exact ⟨k + 1, b2, _, by omega, by go_num, rfl, by simp; omega, HG.out b2 hb2, ho, hxx.trans hb3⟩
                case measure => simp [intOf]; omega
              · go_wp2_with (first | (go_at_call 76; refine (l02Has_c (esI es) _ _ _ (Hv.out.ext hxx)).mono ?_; rintro e wz ⟨b2, rfl, hb2, rfl⟩))
                go_roundw
                case rel => exact ⟨k + 1, b2, l2, by omega, by go_num, rfl, by omega, HG.out b2 hb2, hown.out, hxx⟩
                case measure => simp [intOf]; omega
          · have Hk : Hid (k = es.length) := by show k = _; omega
            have hbf : b = false := by
              obtain ⟨t, ht, hn⟩ := Hl.out q (by omega) hqp Hd.out
              cases hb2 : b with
              | false => rfl
              | true =>
                have := hg.out.1 hb2
                rw [Hk.out, List.take_length] at this
                exact absurd (this t ht) hn
            subst hbf
            go_wp2
            go_roundw
            case rel => exact ⟨q + 1, by omega, by omega, by go_num, hxx⟩
            case measure => simp [intOf]; omega
      · have hb : (((p : Int) % (q : Int)) != 0) = true := by rw [← Int.natCast_emod, bne_iff_ne]; omega
        clear hd
        go_wp2
        go_roundw
        case rel => exact ⟨q + 1, by omega, by omega, by go_num, hx⟩
        case measure => simp [intOf]; omega
    · go_wp2
      go_ret2
      exact ⟨rfl, hx⟩

def perN (l : List Int) : Nat := if (outc l).1 = true then (outc l).2.1 else 0
theorem perP_N (l : List Int) : perP l = perN l := by unfold perP perN; cases (outc l).1 <;> rfl
theorem per_trip {l : List Int} (h : (outc l).1 = true) : outc l = (true, (outc l).2.1, (outc l).2.2) := by rw [← h]
theorem per_lt (l : List Int) : ∀ e ∈ (outc l).2.2, e < perN l := by
  unfold perN
  cases h : (outc l).1 with
  | true => simpa using outc_lt (per_trip h)
  | false => rw [outc_nil h]; simp
theorem per_least (l : List Int) : LeastP (perN l) (outc l).2.2 := by
  intro q h0 h1 h2
  unfold perN at *
  cases h : (outc l).1 with
  | true =>
    rw [h] at h1 h2
    simp only [if_true] at h1 h2 ⊢
    exact outc_least (per_trip h) h0 h1 h2
  | false => rw [h] at h1; simp at h1
def LeaO (l : List Int) (v : Value) (w : World) (e : Ending) (w' : World) : Prop := e = .returned (.tuple #[.int .i64 (perP l), v]) ∧ Ext w w'
theorem l13Least_o (l : List Int) (v : Value) (w : World) (hv : Ints w v (esI (outc l).2.2)) : Calls Try.prog 88 #[.int .i64 (perP l), v] w (LeaO l v w) := by
  rw [perP_N]
  refine (l13Least_c (perN l) (outc l).2.2 v w hv ?_ (per_lt l) (per_least l) ?_).mono ?_
  · have := (outc_bound l).1
    unfold perN
    split <;> omega
  · have := (outc_bound l).2
    omega
  · rintro e w' ⟨rfl, h⟩
    exact ⟨by rw [perP_N], h⟩
theorem specLinePeriod_c (l : List Int) (v : Value) (w : World) (hv : Ints w v l) : Calls Try.prog 60 #[v] w (RI (linP l) w) := by
  have Hv := Lib.hid hv
  clear hv
  have H : Hid (linP l = perP l) := by unfold Hid linP perP; rfl
  by_cases hp : PatOk l
  · have Hp := Lib.hid hp
    clear hp
    go_enter Try.func60, Try.ntmps60
    go_wp2_with (first | (go_at_call 86; refine (specPatternOk_c l _ _ Hv.out).mono ?_; rintro e w1 ⟨b, rfl, hb, rfl⟩; obtain rfl := hb.2 Hp.out; clear hb) | (go_at_call 87; refine (l13Period_c l _ _ Hv.out Hp.out).mono ?_; rintro e w1 ⟨v1, rfl, ho, hx⟩) | (go_at_call 88; refine (l13Least_o l _ _ ho.ints).mono ?_; rintro e w2 ⟨rfl, hx2⟩))
    go_ret
    exact ⟨by rw [H.out]; rfl, hx.tr hx2⟩
  · have Hp := Lib.hid hp
    have H0 : Hid (linP l = 0) := by unfold Hid linP; rw [outc_f hp]; rfl
    clear hp
    go_enter Try.func60, Try.ntmps60
    go_wp2_with (first | (go_at_call 86; refine (specPatternOk_c l _ _ Hv.out).mono ?_; rintro e w1 ⟨b, rfl, hb, rfl⟩; obtain rfl := bool_f hb Hp.out; clear hb))
    go_ret
    exact ⟨by rw [H0.out]; rfl, Below.refl _ _⟩
theorem specPeriodEntries_c (l : List Int) (v : Value) (w : World) (hv : Ints w v l) : Calls Try.prog 62 #[v] w (RL (esI (outc l).2.2) w) := by
  have Hv := Lib.hid hv
  clear hv
  by_cases hp : PatOk l
  · have Hp := Lib.hid hp
    clear hp
    by_cases h1 : (outc l).1 = true
    · have hb0 : (perP l == 0) = false := by rw [beq_eq_false_iff_ne]; have := outc_pos h1; unfold perP; rw [h1]; simp; omega
      clear h1
      go_enter Try.func62, Try.ntmps62
      go_wp2_with (first | (go_at_call 86; refine (specPatternOk_c l _ _ Hv.out).mono ?_; rintro e w1 ⟨b, rfl, hb, rfl⟩; obtain rfl := hb.2 Hp.out; clear hb) | (go_at_call 87; refine (l13Period_c l _ _ Hv.out Hp.out).mono ?_; rintro e w1 ⟨v1, rfl, ho, hx⟩) | (go_at_call 88; refine (l13Least_o l _ _ ho.ints).mono ?_; rintro e w2 ⟨rfl, hx2⟩))
      go_ret
      exact ⟨_, rfl, ho.ext hx2, hx.tr hx2⟩
    · have h2 : (outc l).1 = false := by simpa using h1
      have hb0 : (perP l == 0) = true := by rw [beq_iff_eq]; unfold perP; rw [h2]; rfl
      have H2 := Lib.hid (outc_nil h2)
      clear h1 h2
      go_enter Try.func62, Try.ntmps62
      go_wp2_with (first | (go_at_call 86; refine (specPatternOk_c l _ _ Hv.out).mono ?_; rintro e w1 ⟨b, rfl, hb, rfl⟩; obtain rfl := hb.2 Hp.out; clear hb) | (go_at_call 87; refine (l13Period_c l _ _ Hv.out Hp.out).mono ?_; rintro e w1 ⟨v1, rfl, ho, hx⟩))
      go_ret
      exact ⟨_, rfl, by rw [H2.out]; exact Own.nil _ _, hx⟩
  · have Hp := Lib.hid hp
    have H2 : Hid ((outc l).2.2 = []) := by unfold Hid; rw [outc_f hp]
    clear hp
    go_enter Try.func62, Try.ntmps62
    go_wp2_with (first | (go_at_call 86; refine (specPatternOk_c l _ _ Hv.out).mono ?_; rintro e w1 ⟨b, rfl, hb, rfl⟩; obtain rfl := bool_f hb Hp.out; clear hb))
    go_ret
    exact ⟨_, rfl, by rw [H2.out]; exact Own.nil _ _, Below.refl _ _⟩
theorem pe_len (l : List Int) : (esI (outc l).2.2).length ≤ 1000000 := by have := (outc_bound l).2; rw [esI_len]; omega
end Go.Proofs.Ytaiigheknmndnaa
