/- Contracts: PhaseBetween on both sides. -/
import Derived.Test.YtjkgioimefagoaaFps
import Derived.Test.YtjkgioimefagoaaFequ
import Derived.Test.YtjkgioimefagoaaFpd
namespace Go.Proofs.Ytjkgioimefagoaa
open Go.RowKit
set_option maxRecDepth 100000 in
theorem pbCl_c (n n2 : Int) (l l' : List Int) (b : Nat) (v bv : Value) (w : World) (hv : Ints w v l) (hb : RVar w b n2 bv) (hbl : Ints w bv l') : Calls Try.prog 27 #[.agg #[.int .i64 n, v], .pointer (some ⟨b, 0, none⟩)] w (RB (n = n2 ∧ l = l') w) := by
  obtain ⟨A', c', hve', _, _⟩ := hbl.form0
  obtain ⟨m', hm'⟩ : ∃ m, m = l'.length := ⟨_, rfl⟩
  rw [← hm'] at hve'
  subst hve'
  clear hm'
  obtain ⟨A, c, hve, _, _⟩ := hv.form0
  obtain ⟨m, hm⟩ : ∃ m, m = l.length := ⟨_, rfl⟩
  rw [← hm] at hve
  subst hve
  have hx := one_box w (.cells #[.int .i64 n, .slice A m c] 25)
  have ha := RVar.new (T := 25) w n (.slice A m c)
  have Hv := Lib.hid (hv.ext hx)
  have Hx := Lib.hid hx
  have Ra := Lib.hid ha
  clear hv hx hm ha
  have Hb := Lib.hid (hb.ext Hx.out)
  have Hbl := Lib.hid (hbl.ext Hx.out)
  clear hb hbl
  have hc1 := Ra.out.c0
  have hc2 := Ra.out.c1
  have hc3 := Hb.out.c0
  have hc4 := Hb.out.c1
  go_enter Try.func27, Try.ntmps27
  go_wp2_with (first | (go_at_call 28; refine (equals_c n n2 l l' _ _ _ Hv.out Hbl.out).mono ?_; rintro e w2 ⟨b2, rfl, hb2, hx2⟩))
  go_ret
  exact ⟨b2, rfl, hb2, Hx.out.tr hx2⟩
/-- the first rhythm of a list that is this one; -1 -/
def firR (m : Int) (l' : List Int) : List (Int × List Int) → Nat → Int
  | [], _ => -1
  | r :: t, j => if r.1 = m ∧ r.2 = l' then (j : Int) else firR m l' t (j + 1)
theorem firR_miss {m : Int} {l' : List Int} : ∀ (rs : List (Int × List Int)) (j : Nat), (∀ (k : Nat) (r : Int × List Int), rs[k]? = some r → ¬ (r.1 = m ∧ r.2 = l')) → firR m l' rs j = -1
  | [], _, _ => rfl
  | r :: t, j, h => by
    rw [firR, if_neg (h 0 r rfl)]
    exact firR_miss t (j + 1) fun k r' hr => h (k + 1) r' (by simpa using hr)
theorem firR_hit {m : Int} {l' : List Int} : ∀ (rs : List (Int × List Int)) (j k : Nat) (r : Int × List Int), rs[k]? = some r → (r.1 = m ∧ r.2 = l') → (∀ (i : Nat) (r' : Int × List Int), i < k → rs[i]? = some r' → ¬ (r'.1 = m ∧ r'.2 = l')) → firR m l' rs j = ((j + k : Nat) : Int)
  | [], _, _, _, h, _, _ => by simp at h
  | r0 :: t, j, 0, r, h, hr, _ => by
    simp at h; subst h
    rw [firR, if_pos hr]; rfl
  | r0 :: t, j, k + 1, r, h, hr, hno => by
    rw [firR, if_neg (hno 0 r0 (by omega) rfl), firR_hit t (j + 1) k r (by simpa using h) hr fun i r' hi hr' => hno (i + 1) r' (by omega) (by simpa using hr')]
    congr 1; omega
/-- none of the first j rhythms is this one -/
def noneR (m : Int) (l' : List Int) (rs : List (Int × List Int)) (j : Nat) : Prop := ∀ (i : Nat) (r : Int × List Int), i < j → rs[i]? = some r → ¬ (r.1 = m ∧ r.2 = l')
theorem noneR.succ {m : Int} {l' : List Int} {rs : List (Int × List Int)} {j : Nat} {r : Int × List Int} (h : noneR m l' rs j) (hr : rs[j]? = some r) (hn : ¬ (r.1 = m ∧ r.2 = l')) : noneR m l' rs (j + 1) := by
  intro i r' hi hr'
  by_cases e : i = j
  · subst e; rw [hr] at hr'; cases hr'; exact hn
  · exact h i r' (by omega) hr'
set_option maxRecDepth 100000 in
set_option maxHeartbeats 1000000 in
theorem pbIdx_c (m : Int) (l' : List Int) (b : Nat) (v bv : Value) (us : List (Int × Value)) (rs : List (Int × List Int)) (B : Nat) (w : World) (hR : Rhs w B v us rs) (hb : RVar w b m bv) (hbl : Ints w bv l') (hlen : rs.length ≤ 1000) :
    Calls Try.prog 26 #[v, .func (.func 27) #[] #[.pointer (some ⟨b, 0, none⟩)]] w (RI (firR m l' rs 0) w) := by
  obtain ⟨A, c, hv, hn, _⟩ := hR.form
  have HR := Lib.hid hR
  have Hul := Lib.hid hR.2.1
  obtain ⟨q, hq⟩ : ∃ q, q = us.length := ⟨_, rfl⟩
  rw [← hq] at hv hn
  have Hq := Lib.hid hq
  have hq24 : q ≤ 1000 := by rw [hq, hR.2.1]; exact hlen
  subst hv
  have Hb := Lib.hid hb
  have Hbl := Lib.hid hbl
  clear hR hq hb hbl
  go_enter Try.func26, Try.ntmps26
  go_wp2
  go_loopw [8] (fun i wr => ∃ j : Nat, j ≤ q ∧ i = .int .i64 j ∧ Hid (noneR m l' rs j ∧ Ext w wr)) (fun i _ => q - (intOf i).toNat)
  case atStart => exact ⟨0, Nat.zero_le _, rfl, (fun i r hi _ => absurd hi (Nat.not_lt_zero _)), Below.refl _ _⟩
  case round =>
    obtain ⟨j, hj, rfl, hr⟩ := hrel
    by_cases hjq : j < q
    · obtain ⟨g, cc, n4, A4, m4, c4, l4, he, hget, hm4, h1, h2, ho4⟩ := (HR.out.ext hr.out.2).elem (k := j) (by rw [← Hq.out]; exact hjq)
      obtain ⟨rfl, rfl⟩ : A = some ⟨g, 0, none⟩ ∧ c = cc := by simp only [Value.slice.injEq] at he; exact ⟨he.1, he.2.2⟩
      have hjq2 : (j : Int) < (q : Int) := by omega
      have Hget := Lib.hid hget
      by_cases hin : n4 = m ∧ l4 = l'
      · have Hin := Lib.hid hin
        have H : Hid (firR m l' rs 0 = j) := by unfold Hid; rw [firR_hit rs 0 j (n4, l4) hget hin (fun i r' hi hr' => hr.out.1 i r' hi hr')]; simp
        clear hin hm4 he hget
        go_wp2_with (first | (go_at_call 27; refine (pbCl_c n4 m l4 l' b _ bv _ ho4.ints (Hb.out.ext hr.out.2) (Hbl.out.ext hr.out.2)).mono ?_; rintro e w2 ⟨b2, rfl, hb2, hx2⟩; obtain rfl := hb2.2 Hin.out; clear hb2))
        go_ret
        exact ⟨by rw [H.out]; rfl, hr.out.2.tr hx2⟩
      · have Hin := Lib.hid hin
        have Hn := Lib.hid (hr.out.1.succ hget hin)
        clear hin hm4 he hget
        go_wp2_with (first | (go_at_call 27; refine (pbCl_c n4 m l4 l' b _ bv _ ho4.ints (Hb.out.ext hr.out.2) (Hbl.out.ext hr.out.2)).mono ?_; rintro e w2 ⟨b2, rfl, hb2, hx2⟩; obtain rfl := bool_f hb2 Hin.out; clear hb2))
        go_roundw
        case rel => exact ⟨j + 1, by omega, by go_num, Hn.out, hr.out.2.tr hx2⟩
        case measure => simp [intOf]; omega
    · obtain rfl : j = q := by omega
      have H : Hid (firR m l' rs 0 = -1) := by
        unfold Hid
        refine firR_miss rs 0 fun k r hr' => hr.out.1 k r ?_ hr'
        have := (List.getElem?_eq_some_iff.1 hr').1
        rw [Hq.out, Hul.out]; exact this
      go_wp2
      go_ret
      exact ⟨by rw [H.out]; rfl, hr.out.2⟩
def pbI (n m : Int) (l l' : List Int) : Int := if RhyOk n l ∧ RhyOk m l' then firR m l' (phsL n l) 0 else -1
theorem pbI_f {n m : Int} {l l' : List Int} (h : ¬ (RhyOk n l ∧ RhyOk m l')) : pbI n m l l' = -1 := by unfold pbI; rw [if_neg h]
theorem pbI_t {n m : Int} {l l' : List Int} (h : RhyOk n l ∧ RhyOk m l') : pbI n m l l' = firR m l' (phsL n l) 0 := by unfold pbI; rw [if_pos h]
theorem pbI_ne {n m : Int} {l l' : List Int} (h : ¬ sameOk n m l l') : pbI n m l l' = -1 := by
  by_cases hr : RhyOk n l ∧ RhyOk m l'
  · rw [pbI_t hr]
    refine firR_miss _ _ fun k r hr' he => ?_
    obtain ⟨nn, rfl, _⟩ := hr.1.nat
    rw [phsL_t hr.1] at hr'
    have hk : k < nn := by have := (List.getElem?_eq_some_iff.1 hr').1; rw [phsN_len] at this; exact this
    rw [phsN_get l hk] at hr'
    cases hr'
    exact h ⟨hr.1, hr.2, he.1⟩
  · exact pbI_f hr
set_option maxRecDepth 100000 in
set_option maxHeartbeats 1000000 in
theorem phaseBetween_c (n m : Int) (l l' : List Int) (v u : Value) (w : World) (hv : Ints w v l) (hu : Ints w u l') : Calls Try.prog 12 #[.agg #[.int .i64 n, v], .agg #[.int .i64 m, u]] w (RI (pbI n m l l') w) := by
  obtain ⟨A, c, hve, _, _⟩ := hv.form0
  obtain ⟨A', c', hue, _, _⟩ := hu.form0
  obtain ⟨k, hk⟩ : ∃ k, k = l.length := ⟨_, rfl⟩
  obtain ⟨k', hk'⟩ : ∃ k', k' = l'.length := ⟨_, rfl⟩
  rw [← hk] at hve
  rw [← hk'] at hue
  subst hve
  subst hue
  have hx := two_boxes w (.cells #[.int .i64 n, .slice A k c] 25) (.cells #[.int .i64 m, .slice A' k' c'] 25)
  have ha := (RVar.new (T := 25) w n (.slice A k c)).ext (one_box _ (.cells #[.int .i64 m, .slice A' k' c'] 25))
  have hb : RVar ((w.alloc (.cells #[.int .i64 n, .slice A k c] 25)).alloc (.cells #[.int .i64 m, .slice A' k' c'] 25)) (w.heap.size + 1) m (.slice A' k' c') := by
    simpa only [World.size_alloc] using RVar.new (T := 25) (w.alloc (.cells #[.int .i64 n, .slice A k c] 25)) m (.slice A' k' c')
  have Hv := Lib.hid (hv.ext hx)
  have Hu := Lib.hid (hu.ext hx)
  have Hx := Lib.hid hx
  have Ha := Lib.hid ha
  have Hb := Lib.hid hb
  clear hv hu hx hk hk' ha hb
  by_cases hr : RhyOk n l
  · have Hr := Lib.hid hr
    by_cases hr2 : RhyOk m l'
    · have Hr2 := Lib.hid hr2
      have H := Lib.hid (pbI_t ⟨hr, hr2⟩)
      have Hpl : Hid ((phsL n l).length ≤ 1000) := by have := phsL_len n l; unfold Hid; omega
      clear hr hr2
      go_enter Try.func12, Try.ntmps12
      have tok : True := trivial
      go_wp2_with (first | (go_at_call 21; clear tok; refine (rhythmOk_c n l _ _ Hv.out).mono ?_; rintro e w1 ⟨b1, rfl, hb1, hx1⟩; obtain rfl := hb1.2 Hr.out; clear hb1; have hc1 := (Hb.out.ext hx1).c0; have hc2 := (Hb.out.ext hx1).c1))
      have tok : True := trivial
      go_wp2_with (first | (go_at_call 21; clear tok; refine (rhythmOk_c m l' _ _ (Hu.out.ext hx1)).mono ?_; rintro e w2 ⟨b2, rfl, hb2, hx2⟩; obtain rfl := hb2.2 Hr2.out; clear hb2; have hc3 := ((Ha.out.ext hx1).ext hx2).c0; have hc4 := ((Ha.out.ext hx1).ext hx2).c1) | (go_at_call 20; refine (phasesOf_c n l _ _ ((Hv.out.ext hx1).ext hx2)).mono ?_; rintro e w3 ⟨v3, us, rfl, hR, hx3⟩; obtain ⟨A3, c3, hv3, _, _⟩ := hR.form; have HR := Lib.hid hR; subst hv3; clear hR) | (go_at_call 26; refine (pbIdx_c m l' (w.heap.size + 1) _ _ us _ _ _ HR.out (((Hb.out.ext hx1).ext hx2).ext hx3) (((Hu.out.ext hx1).ext hx2).ext hx3) Hpl.out).mono ?_; rintro e w4 ⟨rfl, hx4⟩))
      go_ret
      exact ⟨by rw [H.out]; rfl, Hx.out.tr (hx1.tr (hx2.tr (hx3.tr hx4)))⟩
    · have H := Lib.hid (pbI_f (n := n) (m := m) (l := l) (l' := l') (fun h => hr2 h.2))
      have Hr2 := Lib.hid hr2
      clear hr hr2
      go_enter Try.func12, Try.ntmps12
      have tok : True := trivial
      go_wp2_with (first | (go_at_call 21; clear tok; refine (rhythmOk_c n l _ _ Hv.out).mono ?_; rintro e w1 ⟨b1, rfl, hb1, hx1⟩; obtain rfl := hb1.2 Hr.out; clear hb1; have hc1 := (Hb.out.ext hx1).c0; have hc2 := (Hb.out.ext hx1).c1))
      have tok : True := trivial
      go_wp2_with (first | (go_at_call 21; clear tok; refine (rhythmOk_c m l' _ _ (Hu.out.ext hx1)).mono ?_; rintro e w2 ⟨b2, rfl, hb2, hx2⟩; obtain rfl := bool_f hb2 Hr2.out; clear hb2))
      go_ret
      exact ⟨by rw [H.out]; rfl, Hx.out.tr (hx1.tr hx2)⟩
  · have H := Lib.hid (pbI_f (n := n) (m := m) (l := l) (l' := l') (fun h => hr h.1))
    have Hr := Lib.hid hr
    clear hr
    go_enter Try.func12, Try.ntmps12
    go_wp2_with (first | (go_at_call 21; refine (rhythmOk_c n l _ _ Hv.out).mono ?_; rintro e w1 ⟨b1, rfl, hb1, hx1⟩; obtain rfl := bool_f hb1 Hr.out; clear hb1))
    go_ret
    exact ⟨by rw [H.out]; rfl, Hx.out.tr hx1⟩
end Go.Proofs.Ytjkgioimefagoaa
