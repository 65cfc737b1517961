/- Contracts: PhaseCounts, FullPhases, ThinnestPhase, ThickestPhase on both sides. -/
import Derived.Test.YtjkgioimefagoaaFps
import Derived.Test.YtjkgioimefagoaaPureP
namespace Go.Proofs.Ytjkgioimefagoaa
open Go.RowKit
/-- the numbers of beats of the phases -/
def pcL (n : Int) (l : List Int) : List Int := cnts (phsL n l)
theorem pcL_len_t {n : Nat} {l : List Int} (h : RhyOk n l) : (pcL n l).length = n := by unfold pcL; rw [cnts_len, phsL_t h, phsN_len]
theorem phsL_len (n : Int) (l : List Int) : (phsL n l).length ≤ 24 := by
  by_cases h : RhyOk n l
  · obtain ⟨m, rfl, _, h24, _⟩ := h.nat
    rw [phsL_t h, phsN_len]; exact h24
  · rw [phsL_f h]; exact Nat.zero_le _
theorem pcL_len (n : Int) (l : List Int) : (pcL n l).length ≤ 1000000 := by unfold pcL; rw [cnts_len]; have := phsL_len n l; omega
theorem pcL_f {n : Int} {l : List Int} (h : ¬ RhyOk n l) : pcL n l = [] := by unfold pcL; rw [phsL_f h]; rfl
theorem pcL_get {n k : Nat} {l : List Int} (h : RhyOk n l) (hk : k < n) : (pcL n l)[k]? = some ((phL n l k).length : Int) := by
  unfold pcL; rw [phsL_t h]; exact cnts_get (phsN_get l hk)
theorem pcL_take {n k : Nat} {l : List Int} (h : RhyOk n l) (hk : k < n) : (pcL n l).take (k + 1) = (pcL n l).take k ++ [((phL n l k).length : Int)] := takeS (pcL_get h hk)
theorem phL_len {n : Nat} (l : List Int) (k : Int) : (phL n l k).length ≤ n := rhL_len n _
/-- a rhythm out of a row of rhythms -/
theorem Rhs.elem {w : World} {B : Nat} {v : Value} {us : List (Int × Value)} {rs : List (Int × List Int)} (h : Rhs w B v us rs) {k : Nat} (hk : k < us.length) :
    ∃ g c n A m cc l, v = .slice (some ⟨g, 0, none⟩) us.length c ∧ rs[k]? = some (n, l) ∧ m = l.length ∧ w.cell? ⟨g, k * 2, none⟩ = some (.int .i64 n) ∧ w.cell? ⟨g, k * 2 + 1, none⟩ = some (.slice A m cc) ∧ Own w B (.slice A m cc) l := by
  obtain ⟨g, c, hv, _⟩ := h.shape (by omega)
  subst hv
  have hp : us[k]? = some us[k] := List.getElem?_eq_getElem hk
  have hk2 : k < rs.length := by rw [← h.2.1]; exact hk
  have hr : rs[k]? = some rs[k] := List.getElem?_eq_getElem hk2
  obtain ⟨h1, h2⟩ := h.2.2.1 k _ _ hp hr
  obtain ⟨c0, c1⟩ := h.cell hp
  obtain ⟨A, m, cc, he⟩ := h2.form
  rw [he] at c1 h2
  exact ⟨g, c, rs[k].1, A, m, cc, rs[k].2, rfl, by rw [hr], h2.n_eq, by rw [← h1]; exact c0, c1, h2⟩
set_option maxRecDepth 100000 in
set_option maxHeartbeats 1000000 in
theorem phaseCounts_c (n : Int) (l : List Int) (v : Value) (w : World) (hv : Ints w v l) : Calls Try.prog 5 #[.agg #[.int .i64 n, v]] w (RL (pcL n l) w) := by
  obtain ⟨A, c, hve, _, _⟩ := hv.form0
  obtain ⟨m, hm⟩ : ∃ m, m = l.length := ⟨_, rfl⟩
  rw [← hm] at hve
  subst hve
  have hx := one_box w (.cells #[.int .i64 n, .slice A m c] 25)
  have ha := RVar.new (T := 25) w n (.slice A m c)
  have Hv := Lib.hid (hv.ext hx)
  have Hx := Lib.hid hx
  have Ra := Lib.hid ha
  clear hv hx hm ha
  have hc1 := Ra.out.c0
  have hc2 := Ra.out.c1
  have hpl := phsL_len n l
  go_enter Try.func5, Try.ntmps5
  go_wp2_with (first | (go_at_call 20; refine (phasesOf_c n l _ _ Hv.out).mono ?_; rintro e w3 ⟨v3, us, rfl, hR, hx3⟩; (obtain ⟨A3, c3, hv3, hn3, hm3⟩ := hR.form; have HR := Lib.hid hR; have Hul := Lib.hid hR.2.1; obtain ⟨q, hq⟩ : ∃ q, q = us.length := ⟨_, rfl⟩; rw [← hq] at hv3 hn3; have Hq := Lib.hid hq; have hq24 : q ≤ 24 := (by rw [hq, hR.2.1]; exact hpl); clear hR hq; subst hv3)))
  clear hc1 hc2
  go_loopw [3, 9] (fun o i wr => ∃ j : Nat, j ≤ q ∧ i = .int .i64 j ∧ Hid (Own wr w3.heap.size o (cnts ((phsL n l).take j)) ∧ Ext w3 wr)) (fun _ i _ => q - (intOf i).toNat)
  case atStart => exact ⟨0, Nat.zero_le _, rfl, Own.nil _ _, Below.refl _ _⟩
  case round =>
    obtain ⟨j, hj, rfl, hr⟩ := hrel
    by_cases hjq : j < q
    · obtain ⟨g, cc, n4, A4, m4, c4, l4, he, hget, hm4, h1, h2, ho4⟩ := (HR.out.ext hr.out.2).elem (k := j) (by rw [← Hq.out]; exact hjq)
      obtain ⟨rfl, rfl⟩ : A3 = some ⟨g, 0, none⟩ ∧ c3 = cc := by simp only [Value.slice.injEq] at he; exact ⟨he.1, he.2.2⟩
      have Hn := Lib.hid (cnts_take hget)
      have Hm4 := Lib.hid hm4
      have hm4b : m4 ≤ 1000000 := by
        have := ho4.ints.len
        have h24 : l4.length ≤ 24 := by
          by_cases hro : RhyOk n l
          · obtain ⟨nn, rfl, _, hn24, _⟩ := hro.nat
            rw [phsL_t hro] at hget
            have hjn : j < nn := by have := (List.getElem?_eq_some_iff.1 hget).1; rw [phsN_len] at this; exact this
            rw [phsN_get l hjn] at hget
            cases hget
            have := phL_len (n := nn) l (j : Int); omega
          · rw [phsL_f hro] at hget; simp at hget
        omega
      have hjq2 : (j : Int) < (q : Int) := by omega
      have hol : (cnts ((phsL n l).take j)).length ≤ j := by rw [cnts_len, List.length_take]; omega
      have hsz := hr.out.2.size
      clear hget hm4 he
      go_wp2_with (first | (at_builtin; refine wp_append1s (wr := wr.alloc (.cells #[.int .i64 n4, .slice A4 m4 c4] 25)) (World.size_alloc _ _).symm rfl (.tmp 13) (.tmp 17) rfl rfl rfl (hr.out.1.ext (one_box wr (.cells #[.int .i64 n4, .slice A4 m4 c4] 25))) (by unfold I64; omega) (by omega) (by simp only [World.size_alloc]; omega) ?_; intro v' w' ho hg hb hat))
      go_roundw
      case rel => exact ⟨j + 1, by omega, by go_num, by rw [Hn.out, ← Hm4.out]; exact ho, hr.out.2.trans (((one_box _ _).mono hsz).trans hb)⟩
      case measure => simp [intOf]; omega
    · obtain rfl : j = q := by omega
      go_wp2
      go_ret
      have h1 := hr.out.1
      rw [List.take_of_length_le (by rw [← Hul.out, ← Hq.out]; exact Nat.le_refl _)] at h1
      exact ⟨_, rfl, h1.base (by have := (Hx.out.tr hx3).size; exact this), Hx.out.tr (hx3.tr hr.out.2)⟩
end Go.Proofs.Ytjkgioimefagoaa
