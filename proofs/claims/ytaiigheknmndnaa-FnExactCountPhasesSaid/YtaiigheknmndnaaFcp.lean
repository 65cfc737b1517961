/- Contracts: CountPhases (the program's). -/
import Derived.Test.YtaiigheknmndnaaFlsr
import Derived.Test.YtaiigheknmndnaaFps
import Derived.Test.YtaiigheknmndnaaFcol
import Derived.Test.YtaiigheknmndnaaLawS
import Derived.Test.YtaiigheknmndnaaFpc
import Derived.Test.YtaiigheknmndnaaFeq
namespace Go.Proofs.Ytaiigheknmndnaa
open Go.RowKit
def lstF (n : Nat) (l : List Int) (k : Nat) : List Int := mxUp n (phL n l k) n
def codL (n : Nat) (l : List Int) : List Int := (List.range n).map fun k => ((cod n (lstF n l k) : Nat) : Int)
theorem codL_len (n : Nat) (l : List Int) : (codL n l).length = n := by simp [codL]
theorem codL_take {n k : Nat} (l : List Int) (h : k < n) : (codL n l).take (k + 1) = (codL n l).take k ++ [((cod n (lstF n l k) : Nat) : Int)] := by
  rw [List.take_add_one]; simp [codL, h]
def cntI (n : Int) (l : List Int) : Int := if RhyOk n l then ((ddUp (lstF n.toNat l) n.toNat).length : Int) else -1
theorem cnt_f {n : Int} {l : List Int} (h : ¬ RhyOk n l) : cntI n l = -1 := if_neg h
theorem cnt_t {n : Nat} {l : List Int} (h : RhyOk n l) : cntI n l = ((ddUp (lstF n l) n).length : Int) := by unfold cntI; rw [if_pos h]; simp
theorem cnt_col {n : Nat} {l : List Int} (h : RhyOk n l) : cntI n l = ((colL (codL n l)).length : Int) := by
  rw [cnt_t h]
  have hg : ∀ i j : Nat, ((cod n (lstF n l i) : Nat) : Int) = ((cod n (lstF n l j) : Nat) : Int) → lstF n l i = lstF n l j := fun i j e => by
    have e2 : cod n (lstF n l i) = cod n (lstF n l j) := by omega
    exact cod_inj (mxUp_inc _ _ _) (mxUp_inc _ _ _) (mxUp_mem _ _ _) (mxUp_mem _ _ _) e2
  have := dd_count (f := lstF n l) (k := n) (fun x => ((cod n x : Nat) : Int)) fun i j _ _ e => hg i j e
  rw [← this]; rfl
set_option maxRecDepth 100000 in
set_option maxHeartbeats 1000000 in
theorem countPhases_c (n : Int) (l : List Int) (v : Value) (w : World) (hv : Ints w v l) : Calls Try.prog 43 #[.agg #[.int .i64 n, v]] w (RI (cntI n l) w) := by
  obtain ⟨A, c, hve, _, _⟩ := hv.form0
  obtain ⟨m, hm⟩ : ∃ m, m = l.length := ⟨_, rfl⟩
  rw [← hm] at hve
  subst hve
  have hx := one_box w (.cells #[.int .i64 n, .slice A m c] 29)
  have ha := RVar.new (T := 29) w n (.slice A m c)
  have Hv := Lib.hid (hv.ext hx)
  have Hx := Lib.hid hx
  have Ra := Lib.hid ha
  clear hv hx hm ha
  have hc1 := Ra.out.c0
  have hc2 := Ra.out.c1
  by_cases hr : RhyOk n l
  · obtain ⟨nn, rfl, hn1, hn24, hlen, hl⟩ := hr.nat
    have Hro := Lib.hid hr
    have Hphs := Lib.hid (phsL_t hr)
    have H := Lib.hid (cnt_col hr)
    have Hnn : Hid (1 ≤ nn ∧ nn ≤ 24) := ⟨hn1, hn24⟩
    clear hr hl hlen
    go_enter Try.func43, Try.ntmps43
    go_wp2_with (first | (go_at_call 70; refine (rhythmOk_c (nn : Int) l _ _ Hv.out).mono ?_; rintro e w2 ⟨b2, rfl, hb2, hx2⟩; obtain rfl := hb2.2 Hro.out; clear hb2; have hd1 := (Ra.out.ext hx2).c0; have hd2 := (Ra.out.ext hx2).c1) | (go_at_call 71; refine (phasesOf_c (nn : Int) l _ _ (Hv.out.ext hx2)).mono ?_; rintro e w3 ⟨v3, us, rfl, hR, hx3⟩; (rw [Hphs.out] at hR; obtain ⟨A3, c3, hv3, hn3, hm3⟩ := hR.form; have HR := Lib.hid hR; obtain ⟨q, hq⟩ : ∃ q, q = us.length := ⟨_, rfl⟩; rw [← hq] at hv3 hn3; have Hq := Lib.hid hq; have hq24 : q = nn := (by rw [hq, hR.2.1, phsN_len]); clear hR hq; subst hv3)))
    clear hc1 hc2 hd1 hd2
    go_loopw [3, 12] (fun o i wr => ∃ j : Nat, j ≤ q ∧ i = .int .i64 j ∧ Hid (Own wr w3.heap.size o ((codL nn l).take j) ∧ Ext w3 wr)) (fun _ i _ => q - (intOf i).toNat)
    case atStart => exact ⟨0, Nat.zero_le _, rfl, Own.nil _ _, Below.refl _ _⟩
    case round =>
      obtain ⟨j, hj, rfl, hr⟩ := hrel
      by_cases hjq : j < q
      · obtain ⟨g, cc, n4, A4, m4, c4, l4, he, hget, hm4, h1, h2, ho4⟩ := (HR.out.ext hr.out.2).elem (k := j) (by rw [← Hq.out]; exact hjq)
        obtain ⟨rfl, rfl⟩ : A3 = some ⟨g, 0, none⟩ ∧ c3 = cc := by simp only [Value.slice.injEq] at he; exact ⟨he.1, he.2.2⟩
        rw [phsN_get l (by omega)] at hget
        cases hget
        have Hn := Lib.hid (codL_take (n := nn) l (show j < nn by omega))
        have hcl : cod nn (lstF nn l j) < 16777216 := cod_lt _ hn1 hn24
        have hol : ((codL nn l).take j).length ≤ j := by rw [List.length_take]; omega
        have hsz := hr.out.2.size
        have Ho4 := Lib.hid (ho4.ext (one_box wr (.cells #[.int .i64 (nn : Int), .slice A4 m4 c4] 29)))
        clear hm4 he ho4
        go_wp2_with (first | (go_at_call 72; refine (leastRotation_c nn (phL nn l j) _ _ Ho4.out.ints Hnn.out (fun x hx => (mem_rhL.1 hx).1) (rhL_len nn _)).mono ?_; rintro e w5 ⟨v5, rfl, ho5, hx5⟩; obtain ⟨A5, n5, c5, rfl⟩ := ho5.form) | (go_at_call 73; refine (code_c nn (mxUp nn (phL nn l j) nn) _ _ ho5.ints Hnn.out (mxUp_mem _ _ _) (mxUp_len _ _ _)).mono ?_; rintro e w6 ⟨rfl, hx6⟩; have X6 : Hid (Ext wr w6) := Ext.tr (one_box wr _) (hx5.tr hx6)) | (at_builtin; refine wp_append1 (n := ((cod nn (lstF nn l j) : Nat) : Int)) rfl (.tmp 16) (.tmp 20) rfl rfl rfl (hr.out.1.ext X6.out) (by unfold I64; omega) (by omega) (Nat.le_trans hsz X6.out.size) ?_; intro v' w' ho hg hb hat))
        go_roundw
        case rel => exact ⟨j + 1, by omega, by go_num, by unfold Hid; rw [Hn.out]; exact ⟨ho, hr.out.2.trans ((X6.out.mono hsz).trans hb)⟩⟩
        case measure => simp [intOf]; omega
      · obtain rfl : j = q := by omega
        have ho0 := hr.out.1
        rw [List.take_of_length_le (by rw [codL_len]; omega)] at ho0
        have Ho := Lib.hid ho0
        clear ho0
        have hcl : (codL nn l).length ≤ 24 := by rw [codL_len]; exact hn24
        go_wp2_with (first | (go_at_call 74; refine (collected_c (codL nn l) _ _ Ho.out.ints (by omega)).mono ?_; rintro e w7 ⟨v7, rfl, ho7, hx7⟩; obtain ⟨A7, c7, hv7, _, _⟩ := ho7.slice; subst hv7))
        go_ret
        exact ⟨by rw [H.out]; rfl, Hx.out.tr (hx2.tr (hx3.tr (hr.out.2.tr hx7)))⟩
  · have Hro := Lib.hid hr
    have H := Lib.hid (cnt_f hr)
    clear hr
    go_enter Try.func43, Try.ntmps43
    go_wp2_with (first | (go_at_call 70; refine (rhythmOk_c n l _ _ Hv.out).mono ?_; rintro e w3 ⟨b3, rfl, hb3, hx3⟩; obtain rfl := bool_f hb3 Hro.out; clear hb3))
    go_ret
    exact ⟨by rw [H.out]; rfl, Hx.out.tr hx3⟩
/-- lists as rhythms of n pulses -/
def rsD (n : Nat) (D : List (List Int)) : List (Int × List Int) := D.map fun m => ((n : Int), m)
theorem rsD_len (n : Nat) (D : List (List Int)) : (rsD n D).length = D.length := by simp [rsD]
theorem rsD_get {n : Nat} {D : List (List Int)} {j : Nat} {r : Int × List Int} (h : (rsD n D)[j]? = some r) : D[j]? = some r.2 ∧ r.1 = n := by
  unfold rsD at h
  rw [List.getElem?_map] at h
  cases e : D[j]? with
  | none => rw [e] at h; simp at h
  | some m => rw [e] at h; simp at h; subst h; exact ⟨rfl, rfl⟩
theorem memT {D : List (List Int)} {j : Nat} {x y : List Int} (h : D[j]? = some y) (hb : x ∈ D.take j ∨ x = y) : x ∈ D.take (j + 1) := by
  rw [takeS h, List.mem_append, List.mem_singleton]; exact hb
theorem memF {D : List (List Int)} {j : Nat} {x y : List Int} (h : D[j]? = some y) (h1 : ¬ x ∈ D.take j) (h2 : ¬ x = y) : ¬ x ∈ D.take (j + 1) := by
  rw [takeS h, List.mem_append, List.mem_singleton]; exact fun e => e.elim h1 h2
set_option maxRecDepth 100000 in
set_option maxHeartbeats 2000000 in
theorem specCountPhases_c (n : Int) (l : List Int) (v : Value) (w : World) (hv : Ints w v l) : Calls Try.prog 41 #[.agg #[.int .i64 n, v]] w (RI (cntI n l) w) := by
  obtain ⟨A, c, hve, _, _⟩ := hv.form0
  obtain ⟨m, hm⟩ : ∃ m, m = l.length := ⟨_, rfl⟩
  rw [← hm] at hve
  subst hve
  have hx := one_box w (.cells #[.int .i64 n, .slice A m c] 29)
  have ha := RVar.new (T := 29) w n (.slice A m c)
  have Hv := Lib.hid (hv.ext hx)
  have Hx := Lib.hid hx
  have Ra := Lib.hid ha
  clear hv hx hm ha
  have hc1 := Ra.out.c0
  have hc2 := Ra.out.c1
  by_cases hr : RhyOk n l
  · obtain ⟨nn, rfl, hn1, hn24, hlen, hl⟩ := hr.nat
    have Hro := Lib.hid hr
    have H := Lib.hid (cnt_t hr)
    have Hnn : Hid (1 ≤ nn ∧ nn ≤ 24) := ⟨hn1, hn24⟩
    clear hr hl hlen
    go_enter Try.func41, Try.ntmps41
    go_wp2_with (first | (go_at_call 66; refine (specRhythmOk_c (nn : Int) l _ _ Hv.out).mono ?_; rintro e w3 ⟨b3, rfl, hb3, hx3⟩; obtain rfl := hb3.2 Hro.out; clear hb3))
    clear hc1 hc2
    go_loopw [3, 4] (fun s i wr => ∃ (k : Nat) (us : List (Int × Value)), k ≤ nn ∧ i = .int .i64 k ∧ Hid (Rhs wr w3.heap.size s us (rsD nn (ddUp (lstF nn l) k)) ∧ Ext w3 wr)) (fun _ i _ => nn - (intOf i).toNat)
    case atStart => exact ⟨0, [], Nat.zero_le _, rfl, Rhs.empty (Nat.le_refl _), one_box w3 _⟩
    case round =>
      obtain ⟨k, us, hk, rfl, hr⟩ := hrel
      have hc1 := (Ra.out.ext (hx3.tr hr.out.2)).c0
      have hc2 := (Ra.out.ext (hx3.tr hr.out.2)).c1
      obtain ⟨A0, c0, hs0, hq0, _⟩ := hr.out.1.form
      have HR := Lib.hid hr.out.1
      have hul : us.length = (ddUp (lstF nn l) k).length := by rw [hr.out.1.2.1, rsD_len]
      have hdl := dd_len (lstF nn l) k
      obtain ⟨q, hq⟩ : ∃ q, q = us.length := ⟨_, rfl⟩
      rw [← hq] at hs0 hul
      have Hq := Lib.hid hq
      have Hul := Lib.hid hul
      have hq24 : q ≤ 24 := by omega
      clear hq hul hdl hq0
      subst hs0
      by_cases hkn : k < nn
      · have hkn2 : (k : Int) < (nn : Int) := by omega
        have Hpb : Hid (pbOk nn l k) := ⟨Hro.out, by omega, by omega⟩
        go_wp2_with (first | (go_at_call 68; refine (l17Phase_c nn l (k : Int) _ _ (Hv.out.ext (hx3.tr hr.out.2)) Hpb.out).mono ?_; rintro e w4 ⟨v4, rfl, ho4, hx4⟩; obtain ⟨A4, m4, c4, rfl⟩ := ho4.form) | (go_at_call 67; refine (l04Least_c nn (phL nn l k) _ _ ho4.ints Hnn.out (fun x hx => (mem_rhL.1 hx).1) (rhL_len nn _)).mono ?_; rintro e w5 ⟨v5, rfl, ho5, hx5⟩; obtain ⟨A5, n5, c5, rfl⟩ := ho5.form))
        have X5 : Hid (Ext wr (w5.alloc (.cells #[.int .i64 (nn : Int), .slice A5 n5 c5] 29))) := (hx4.tr hx5).tr (one_box w5 _)
        have Rx := Lib.hid (RVar.new (T := 29) w5 (nn : Int) (.slice A5 n5 c5))
        have Ho5 := Lib.hid ((ho5.base hx4.size).ext (one_box w5 (.cells #[.int .i64 (nn : Int), .slice A5 n5 c5] 29)))
        clear hc1 hc2 ho4 ho5
        go_loopw [6, 25] (fun b i wr => ∃ (j : Nat) (c : Bool), j ≤ q ∧ i = .int .i64 j ∧ b = .bool c ∧ Hid ((c = true ↔ lstF nn l k ∈ (ddUp (lstF nn l) k).take j) ∧ Ext (w5.alloc (.cells #[.int .i64 (nn : Int), .slice A5 n5 c5] 29)) wr)) (fun _ i _ => q - (intOf i).toNat)
        case atStart => exact ⟨0, false, Nat.zero_le _, rfl, rfl, by simp, Below.refl _ _⟩
        case round =>
          obtain ⟨j, c, hj, rfl, rfl, hi⟩ := hrel
          by_cases hjq : j < q
          · have hjq2 : (j : Int) < (q : Int) := by omega
            obtain ⟨g, cc, n6, A6, m6, c6, l6, he, hget, hm6, h1, h2, ho6⟩ := (HR.out.ext (X5.out.tr hi.out.2)).elem (k := j) (by rw [← Hq.out]; exact hjq)
            obtain ⟨rfl, rfl⟩ : A0 = some ⟨g, 0, none⟩ ∧ c0 = cc := by simp only [Value.slice.injEq] at he; exact ⟨he.1, he.2.2⟩
            have Hget := Lib.hid (rsD_get hget).1
            have Hn6 : Hid (n6 = (nn : Int)) := (rsD_get hget).2
            have p0 := (Rx.out.ext hi.out.2).ext (one_box wr (.cells #[.int .i64 n6, .slice A6 m6 c6] 29))
            have p1 := p0.c1
            have p2 := (RVar.new (T := 29) wr n6 (.slice A6 m6 c6)).c1
            have Ho6 := Lib.hid (ho6.ext (one_box wr (.cells #[.int .i64 n6, .slice A6 m6 c6] 29)))
            have Hb := Lib.hid (one_box wr (.cells #[.int .i64 n6, .slice A6 m6 c6] 29))
            have hi2 := hi.out
            clear hget hm6 ho6 he p0
            cases c with
            | true =>
              have Hn : Hid (lstF nn l k ∈ (ddUp (lstF nn l) k).take (j + 1)) := memT Hget.out (.inl (hi2.1.1 rfl))
              clear hi2
              go_wp2
              go_roundw
              case rel => exact ⟨j + 1, true, by omega, by go_num, rfl, ⟨fun _ => Hn.out, fun _ => rfl⟩, hi.out.2.tr Hb.out⟩
              case measure => simp [intOf]; omega
            | false =>
              have Hn0 : Hid (¬ lstF nn l k ∈ (ddUp (lstF nn l) k).take j) := fun h => by have := hi2.1.2 h; cases this
              clear hi2
              go_wp2_with (first | (go_at_call 69; refine (l02Same_c (lstF nn l k) l6 _ _ _ ((Ho5.out.ext hi.out.2).ext Hb.out).ints Ho6.out.ints).mono ?_; rintro e w7 ⟨b7, rfl, hb7, hx7⟩))
              go_roundw
              case rel =>
                refine ⟨j + 1, b7, by omega, by go_num, rfl, ⟨fun h => memT Hget.out (.inr (hb7.1 h)), fun h => ?_⟩, hi.out.2.tr (Hb.out.tr hx7)⟩
                by_cases e : lstF nn l k = l6
                · exact hb7.2 e
                · exact absurd h (memF Hget.out Hn0.out e)
              case measure => simp [intOf]; omega
          · obtain rfl : j = q := by omega
            have hi2 := hi.out
            rw [List.take_of_length_le (by rw [← Hul.out]; exact Nat.le_refl _)] at hi2
            have p0 := (Rx.out.ext hi2.2).c0
            have p1 := (Rx.out.ext hi2.2).c1
            cases c with
            | true =>
              have Hn := Lib.hid (ddUp_t (hi2.1.1 rfl))
              clear hi2
              go_wp2
              go_roundw
              case rel => exact ⟨k + 1, us, by omega, by go_num, by rw [Hn.out]; exact HR.out.ext (X5.out.tr hi.out.2), hr.out.2.tr (X5.out.tr hi.out.2)⟩
              case measure => simp [intOf]; omega
            | false =>
              have Hn := Lib.hid (ddUp_f (f := lstF nn l) (k := k) fun h => by have := hi2.1.2 h; cases this)
              have hul2 : us.length ≤ 1000000 := by rw [← Hq.out]; omega
              have hsz := hr.out.2.size
              clear hi2
              go_wp2_with (first | (at_builtin; refine wp_appendR rfl (.tmp 40) (.tmp 42) rfl rfl rfl hr.out.1 (X5.out.tr hi.out.2) (Ho5.out.ext hi.out.2) hul2 hsz ?_; intro v' w' ho hb))
              go_roundw
              case rel => exact ⟨k + 1, _, by omega, by go_num, by rw [Hn.out]; unfold rsD at ho ⊢; rw [List.map_append]; exact ho, hr.out.2.trans hb⟩
              case measure => simp [intOf]; omega
      · obtain rfl : k = nn := by omega
        go_wp2
        go_ret
        exact ⟨by rw [H.out, ← Hul.out]; rfl, Hx.out.tr (hx3.tr hr.out.2)⟩
  · have Hro := Lib.hid hr
    have H := Lib.hid (cnt_f hr)
    clear hr
    go_enter Try.func41, Try.ntmps41
    go_wp2_with (first | (go_at_call 66; refine (specRhythmOk_c n l _ _ Hv.out).mono ?_; rintro e w3 ⟨b3, rfl, hb3, hx3⟩; obtain rfl := bool_f hb3 Hro.out; clear hb3))
    go_ret
    exact ⟨by rw [H.out]; rfl, Hx.out.tr hx3⟩
end Go.Proofs.Ytaiigheknmndnaa
