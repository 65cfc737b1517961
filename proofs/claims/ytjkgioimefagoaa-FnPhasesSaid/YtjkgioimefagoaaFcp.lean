/- Contracts: CountPhases (the program's). -/
import Derived.Test.YtjkgioimefagoaaFlsr
import Derived.Test.YtjkgioimefagoaaFps
import Derived.Test.YtjkgioimefagoaaFcol
import Derived.Test.YtjkgioimefagoaaFpc
import Derived.Test.YtjkgioimefagoaaFeq
namespace Go.Proofs.Ytjkgioimefagoaa
open Go.RowKit
def lstF (n : Nat) (l : List Int) (k : Nat) : List Int := mxUp n (phL n l k) n
def codL (n : Nat) (l : List Int) : List Int := (List.range n).map fun k => ((cod n (lstF n l k) : Nat) : Int)
theorem codL_len (n : Nat) (l : List Int) : (codL n l).length = n := by simp [codL]
theorem codL_take {n k : Nat} (l : List Int) (h : k < n) : (codL n l).take (k + 1) = (codL n l).take k ++ [((cod n (lstF n l k) : Nat) : Int)] := by
  rw [List.take_add_one]; simp [codL, h]
def cntI (n : Int) (l : List Int) : Int := if RhyOk n l then ((ddUp (lstF n.toNat l) n.toNat).length : Int) else -1
theorem cnt_f {n : Int} {l : List Int} (h : ¬ RhyOk n l) : cntI n l = -1 := if_neg h
theorem cnt_t {n : Nat} {l : List Int} (h : RhyOk n l) : cntI n l = ((ddUp (lstF n l) n).length : Int) := by unfold cntI; rw [if_pos h]; simp
theorem cnt_col {n : Nat} {l : List Int} (h : RhyOk n l) : cntI n l = ((colL (codL n l)).length : Int) := by
  rw [cnt_t h]
  have hg : ∀ i j : Nat, ((cod n (lstF n l i) : Nat) : Int) = ((cod n (lstF n l j) : Nat) : Int) → lstF n l i = lstF n l j := fun i j e => by
    have e2 : cod n (lstF n l i) = cod n (lstF n l j) := by omega
    exact cod_inj (mxUp_inc _ _ _) (mxUp_inc _ _ _) (mxUp_mem _ _ _) (mxUp_mem _ _ _) e2
  have := dd_count (f := lstF n l) (k := n) (fun x => ((cod n x : Nat) : Int)) fun i j _ _ e => hg i j e
  rw [← this]; rfl
set_option maxRecDepth 100000 in
set_option maxHeartbeats 1000000 in
theorem countPhases_c (n : Int) (l : List Int) (v : Value) (w : World) (hv : Ints w v l) : Calls Try.prog 16 #[.agg #[.int .i64 n, v]] w (RI (cntI n l) w) := by
  obtain ⟨A, c, hve, _, _⟩ := hv.form0
  obtain ⟨m, hm⟩ : ∃ m, m = l.length := ⟨_, rfl⟩
  rw [← hm] at hve
  subst hve
  have hx := one_box w (.cells #[.int .i64 n, .slice A m c] 25)
  have ha := RVar.new (T := 25) w n (.slice A m c)
  have Hv := Lib.hid (hv.ext hx)
  have Hx := Lib.hid hx
  have Ra := Lib.hid ha
  clear hv hx hm ha
  have hc1 := Ra.out.c0
  have hc2 := Ra.out.c1
  by_cases hr : RhyOk n l
  · obtain ⟨nn, rfl, hn1, hn24, hlen, hl⟩ := hr.nat
    have Hro := Lib.hid hr
    have Hphs := Lib.hid (phsL_t hr)
    have H := Lib.hid (cnt_col hr)
    have Hnn : Hid (1 ≤ nn ∧ nn ≤ 24) := ⟨hn1, hn24⟩
    clear hr hl hlen
    go_enter Try.func16, Try.ntmps16
    go_wp2_with (first | (go_at_call 21; refine (rhythmOk_c (nn : Int) l _ _ Hv.out).mono ?_; rintro e w2 ⟨b2, rfl, hb2, hx2⟩; obtain rfl := hb2.2 Hro.out; clear hb2; have hd1 := (Ra.out.ext hx2).c0; have hd2 := (Ra.out.ext hx2).c1) | (go_at_call 20; refine (phasesOf_c (nn : Int) l _ _ (Hv.out.ext hx2)).mono ?_; rintro e w3 ⟨v3, us, rfl, hR, hx3⟩; (rw [Hphs.out] at hR; obtain ⟨A3, c3, hv3, hn3, hm3⟩ := hR.form; have HR := Lib.hid hR; obtain ⟨q, hq⟩ : ∃ q, q = us.length := ⟨_, rfl⟩; rw [← hq] at hv3 hn3; have Hq := Lib.hid hq; have hq24 : q = nn := (by rw [hq, hR.2.1, phsN_len]); clear hR hq; subst hv3)))
    clear hc1 hc2 hd1 hd2
    go_loopw [3, 12] (fun o i wr => ∃ j : Nat, j ≤ q ∧ i = .int .i64 j ∧ Hid (Own wr w3.heap.size o ((codL nn l).take j) ∧ Ext w3 wr)) (fun _ i _ => q - (intOf i).toNat)
    case atStart => exact ⟨0, Nat.zero_le _, rfl, Own.nil _ _, Below.refl _ _⟩
    case round =>
      obtain ⟨j, hj, rfl, hr⟩ := hrel
      by_cases hjq : j < q
      · obtain ⟨g, cc, n4, A4, m4, c4, l4, he, hget, hm4, h1, h2, ho4⟩ := (HR.out.ext hr.out.2).elem (k := j) (by rw [← Hq.out]; exact hjq)
        obtain ⟨rfl, rfl⟩ : A3 = some ⟨g, 0, none⟩ ∧ c3 = cc := by simp only [Value.slice.injEq] at he; exact ⟨he.1, he.2.2⟩
        rw [phsN_get l (by omega)] at hget
        cases hget
        have Hn := Lib.hid (codL_take (n := nn) l (show j < nn by omega))
        have hcl : cod nn (lstF nn l j) < 16777216 := cod_lt _ hn1 hn24
        have hol : ((codL nn l).take j).length ≤ j := by rw [List.length_take]; omega
        have hsz := hr.out.2.size
        have Ho4 := Lib.hid (ho4.ext (one_box wr (.cells #[.int .i64 (nn : Int), .slice A4 m4 c4] 25)))
        clear hm4 he ho4
        go_wp2_with (first | (go_at_call 32; refine (leastRotation_c nn (phL nn l j) _ _ Ho4.out.ints Hnn.out (fun x hx => (mem_rhL.1 hx).1) (rhL_len nn _)).mono ?_; rintro e w5 ⟨v5, rfl, ho5, hx5⟩; obtain ⟨A5, n5, c5, rfl⟩ := ho5.form) | (go_at_call 33; refine (code_c nn (mxUp nn (phL nn l j) nn) _ _ ho5.ints Hnn.out (mxUp_mem _ _ _) (mxUp_len _ _ _)).mono ?_; rintro e w6 ⟨rfl, hx6⟩; have X6 : Hid (Ext wr w6) := Ext.tr (one_box wr _) (hx5.tr hx6)) | (at_builtin; refine wp_append1 (n := ((cod nn (lstF nn l j) : Nat) : Int)) rfl (.tmp 16) (.tmp 20) rfl rfl rfl (hr.out.1.ext X6.out) (by unfold I64; omega) (by omega) (Nat.le_trans hsz X6.out.size) ?_; intro v' w' ho hg hb hat))
        go_roundw
        case rel => exact ⟨j + 1, by omega, by go_num, by unfold Hid; rw [Hn.out]; exact ⟨ho, hr.out.2.trans ((X6.out.mono hsz).trans hb)⟩⟩
        case measure => simp [intOf]; omega
      · obtain rfl : j = q := by omega
        have ho0 := hr.out.1
        rw [List.take_of_length_le (by rw [codL_len]; omega)] at ho0
        have Ho := Lib.hid ho0
        clear ho0
        have hcl : (codL nn l).length ≤ 24 := by rw [codL_len]; exact hn24
        go_wp2_with (first | (go_at_call 34; refine (collected_c (codL nn l) _ _ Ho.out.ints (by omega)).mono ?_; rintro e w7 ⟨v7, rfl, ho7, hx7⟩; obtain ⟨A7, c7, hv7, _, _⟩ := ho7.slice; subst hv7))
        go_ret
        exact ⟨by rw [H.out]; rfl, Hx.out.tr (hx2.tr (hx3.tr (hr.out.2.tr hx7)))⟩
  · have Hro := Lib.hid hr
    have H := Lib.hid (cnt_f hr)
    clear hr
    go_enter Try.func16, Try.ntmps16
    go_wp2_with (first | (go_at_call 21; refine (rhythmOk_c n l _ _ Hv.out).mono ?_; rintro e w3 ⟨b3, rfl, hb3, hx3⟩; obtain rfl := bool_f hb3 Hro.out; clear hb3))
    go_ret
    exact ⟨by rw [H.out]; rfl, Hx.out.tr hx3⟩
end Go.Proofs.Ytjkgioimefagoaa
