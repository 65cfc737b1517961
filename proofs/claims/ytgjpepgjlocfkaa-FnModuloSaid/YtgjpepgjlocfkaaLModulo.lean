/- For every row of bytes the law FnModulo returns true: polynomials modulo two are a ring, entries hit each time an odd number of times, series repeat. Conditions: none beyond the row's own. -/
import Derived.Test.YtgjpepgjlocfkaaModA
import Derived.Test.YtgjpepgjlocfkaaFmp
import Derived.Test.YtgjpepgjlocfkaaFord
import Derived.Test.YtgjpepgjlocfkaaGlueB
namespace Go.Proofs.Ytgjpepgjlocfkaa
open Go.ChangeShapes Go.WideShapes Go.ChangeAt Go.RowKit
attribute [local irreducible] ttI restI maskI listI ltwI etwL etwOk hitI serI ordI pats
set_option maxRecDepth 100000 in
set_option maxHeartbeats 8000000 in
theorem lawModulo_c (l : List Int) (v : Value) (w : World) (hv : Byts w v l) : Calls Try.prog 3 #[v] w fun e w' => e = .returned (.bool true) ∧ Ext w w' := by
  obtain ⟨A, c0, hve⟩ := hv.form0
  have hlm : l.length ≤ 9223372036854775807 := by obtain ⟨_, c', _, h1, h2, _⟩ := hv; unfold maxLen at h2; omega
  obtain ⟨m, hm⟩ : ∃ m, m = l.length := ⟨_, rfl⟩
  rw [← hm] at hve hlm
  subst hve
  have Hv := Lib.hid hv
  clear hv hm
  by_cases hle : m ≤ 1048576
  rotate_left
  · have hle2 : (1048576 : Int) < (m : Int) := by omega
    go_enter Try.func3, Try.ntmps3
    go_wp2
    go_ret
    exact ⟨rfl, Below.refl _ _⟩
  have hle2 : ¬ (1048576 : Int) < (m : Int) := by omega
  go_enter Try.func3, Try.ntmps3
  have tok : True := trivial
  go_wp2_with (first | (go_at_call 4; clear tok; refine (makeNum_c l 0 _ _ Hv.out (by omega)).mono ?_; rintro e w1 ⟨a0, hla0, rfl, hx1⟩; (obtain ⟨a, haa⟩ : ∃ a, a = a0 % 2048 := ⟨_, rfl⟩; have ha : (a0 : Int) % 2048 = (a : Int) := (by omega); have ha2 : a < 2048 := (by omega); clear haa)))
  have tok : True := trivial
  go_wp2_with (first | (go_at_call 4; clear tok; refine (makeNum_c l 2 _ _ (Hv.out.ext hx1) (by omega)).mono ?_; rintro e w2 ⟨b0, hlb0, rfl, hx2⟩; (obtain ⟨b, hbb⟩ : ∃ b, b = b0 % 256 := ⟨_, rfl⟩; have hb : (b0 : Int) % 256 = (b : Int) := (by omega); have hb2 : b < 256 := (by omega); clear hbb)))
  have tok : True := trivial
  go_wp2_with (first | (go_at_call 4; clear tok; refine (makeNum_c l 4 _ _ (Hv.out.ext (Ext.tr hx1 hx2)) (by omega)).mono ?_; rintro e w3 ⟨c1, hlc1, rfl, hx3⟩; (obtain ⟨c, hcc⟩ : ∃ c, c = c1 % 256 := ⟨_, rfl⟩; have hc : (c1 : Int) % 256 = (c : Int) := (by omega); have hc2 : c < 256 := (by omega); clear hcc; have X3 : Hid (Ext w w3) := Ext.tr hx1 (Ext.tr hx2 hx3))))
  obtain ⟨X, Y, r, hX, hY, hT1, hT2, hT3, hT4, hR1, hR2, hR3, hM⟩ := mod_ring ha2 hb2 hc2
  have x1 := i64_xor a b (by omega) (by omega)
  have x2 := i64_xor X Y hX hY
  have x3 := i64_xor X b hX (by omega)
  clear ha hb hc
  go_wp2_with (first | (go_at_call 5; refine (timesTwo_c _ _ _).mono ?_; rintro e w4 ⟨rfl, rfl⟩) | (go_at_call 6; refine (restTwo_c _ _ _).mono ?_; rintro e w4 ⟨rfl, rfl⟩) | (go_at_call 8; refine (listOf_c (a : Int) _).mono ?_; rintro e w5 ⟨v5, rfl, ho5, hx5⟩) | (go_at_call 7; refine (maskOf_c (listI (a : Int)) _ _ ho5.ints).mono ?_; rintro e w6 ⟨rfl, rfl⟩))
  clear hT1 hT2 hT3 hT4 hR1 hR2 hR3 hM x1 x2 x3 hX hY
  have X5 := Lib.hid (Ext.tr X3.out hx5)
  have tok : True := trivial
  go_wp2_with (first | (go_at_call 9; clear tok; refine (makePattern_c l 6 _ _ (Hv.out.ext X5.out) (by omega)).mono ?_; rintro e w7 ⟨v7, p, rfl, hpw7, how7, hxw7⟩; (obtain ⟨A7, q7, hv7, hql, _⟩ := how7.slice; obtain ⟨q, hq⟩ : ∃ q, q = p.length := ⟨_, rfl⟩; have Hq := Lib.hid hq; rw [← hq] at hv7 hql; subst hv7; clear hq; have Hp := Lib.hid hpw7; have Ho := Lib.hid how7; have X7 : Hid (Ext w w7) := Ext.tr X5.out hxw7; clear hpw7 how7)))
  have tok : True := trivial
  go_wp2_with (first | (go_at_call 10; clear tok; refine (leastTwo_c p _ _ Ho.out.ints).mono ?_; rintro e w8 ⟨rfl, hx8⟩))
  have X8 : Hid (Ext w w8) := Ext.tr X7.out hx8
  have Hi := Lib.hid (Ho.out.ext hx8).ints
  have hpok := pats_ok Hp.out
  have hplen := pats_ok Hp.out |>.len
  rw [← Hq.out] at hplen
  have Hpok := Lib.hid hpok
  clear hpok
  have tok : True := trivial
  go_wp2_with (first | (go_at_call 7; clear tok; refine (maskOf_c p _ _ Hi.out).mono ?_; rintro e w9 ⟨rfl, rfl⟩))
  obtain ⟨mk, hmk⟩ : ∃ mk, mk = maskI p := ⟨_, rfl⟩
  obtain ⟨lt, hlt⟩ : ∃ lt, lt = ltwI p := ⟨_, rfl⟩
  rw [← hmk, ← hlt]
  have Hmk := Lib.hid hmk
  have Hlt := Lib.hid hlt
  clear hmk hlt hx1 hx2 hx3 hx5 hx8 hxw7 ho5
  go_loopw [10] (fun i wr => ∃ k : Nat, 1 ≤ k ∧ k ≤ 41 ∧ i = .int .i64 k ∧ Ext w8 wr) (fun i _ => 42 - (intOf i).toNat)
  case atStart => exact ⟨1, by omega, by omega, rfl, Below.refl _ _⟩
  case round =>
    obtain ⟨k, hk1, hk2, rfl, hxr⟩ := hrel
    by_cases hk : k ≤ 40
    · have hki : (k : Int) ≤ 40 := by omega
      have hk0 : (0 : Int) ≤ (k : Int) := by omega
      have hz0 : 0 < 2 ^ k := Nat.two_pow_pos _
      have hzl : 2 ^ k ≤ 1099511627776 := Nat.pow_le_pow_right (n := 2) (by decide) (show k ≤ 40 by omega)
      have hzw : IntKind.i64.wrap ((2 : Int) ^ k) = ((2 ^ k : Nat) : Int) := by rw [show (2 : Int) ^ k = ((2 ^ k : Nat) : Int) by rw [Int.natCast_pow]; rfl]; exact wrap_nat (by omega)
      have hrest := mod_rest Hpok.out hk1 hk
      have hltw := mod_ltw (l := p) hk1 hk
      have hhit := mod_hit Hp.out hk1 hk
      rw [← Hmk.out] at hrest
      rw [← Hlt.out] at hltw
      generalize 2 ^ k = z at *
      obtain ⟨y, hy⟩ : ∃ y, y = z - 1 := ⟨_, rfl⟩
      rw [← hy] at hrest
      have hyw : IntKind.i64.wrap ((z : Int) - 1) = (y : Int) := by rw [show (z : Int) - 1 = (y : Int) by omega]; exact wrap_nat (by omega)
      obtain ⟨rr, hrr⟩ : ∃ rr, rr = restI (y : Int) mk := ⟨_, rfl⟩
      rw [← hrr] at hrest
      have Hrr := Lib.hid hrr
      obtain ⟨ok, hok⟩ : ∃ ok, ok = etwOk p (k : Int) := ⟨_, rfl⟩
      have Hok := Lib.hid hok
      rw [← hok] at hrest hltw hhit
      clear hy hrr hok hz0
      cases ok with
      | false =>
        have hb1 : (rr == 0) = false := hrest.symm
        clear hltw hhit hrest
        go_wp2_with (first | (go_at_call 11; refine (entriesTwo_c p ((k : Nat) : Int) _ _ (Hi.out.ext hxr)).mono ?_; rintro e w10 ⟨v10, rfl, ho10, hx10⟩; rw [← Hok.out]) | (go_at_call 6; refine (restTwo_c _ _ _).mono ?_; rintro e w11 ⟨rfl, rfl⟩; rw [← Hrr.out]))
        go_roundw
        case rel => exact ⟨k + 1, by omega, by omega, by go_num, hxr.tr hx10⟩
        case measure => simp [intOf]; omega
      | true =>
        have hb1 : (rr == 0) = true := hrest.symm
        obtain ⟨hl1, hl2⟩ := hltw rfl
        obtain ⟨hh1, hh2⟩ := hhit rfl
        have hb2 : ¬ (k : Int) < lt := by omega
        have hb3 : (lt == 0) = false := by rw [beq_eq_false_iff_ne]; omega
        have Hh2 := Lib.hid hh2
        clear hhit hltw hh2 hrest
        go_wp2_with (first | (go_at_call 11; refine (entriesTwo_c p ((k : Nat) : Int) _ _ (Hi.out.ext hxr)).mono ?_; rintro e w10 ⟨v10, rfl, ho10, hx10⟩; rw [← Hok.out]) | (go_at_call 6; refine (restTwo_c _ _ _).mono ?_; rintro e w11 ⟨rfl, rfl⟩; rw [← Hrr.out]) | (go_at_call 12; refine (hitsOf_c p (etwL p (k : Int)) _ _ _ ((Hi.out.ext hxr).ext hx10) ho10.ints).mono ?_; rintro e w12 ⟨v12, rfl, ho12, hx12⟩; (obtain ⟨A12, c12, hv12, _, _⟩ := ho12.slice; have Hlen := Lib.hid hh1; rw [hh1] at hv12; subst hv12; have Ho12 := Lib.hid ho12; clear hh1 ho12)))
        go_loop [130] (fun i => ∃ j : Nat, j ≤ k ∧ i = .int .i64 j) (fun i => k - (intOf i).toNat)
        case atStart => exact ⟨0, Nat.zero_le _, rfl⟩
        case round =>
          obtain ⟨j, hj, rfl⟩ := hrel
          by_cases hjk : j < k
          · obtain ⟨g, cc, he, _, _, _, hcell, _⟩ := Ho12.out.shape (by rw [Hlen.out]; omega)
            obtain ⟨rfl, rfl⟩ : A12 = some ⟨g, 0, none⟩ ∧ c12 = cc := by simp only [Value.slice.injEq] at he; exact ⟨he.1, he.2.2⟩
            obtain ⟨x, hx⟩ : ∃ x, (hitI p (etwL p (k : Int)))[j]? = some x := ⟨_, List.getElem?_eq_getElem (by rw [Hlen.out]; exact hjk)⟩
            have hcx := hcell j x hx
            have hx1 := Hh2.out x (List.mem_of_getElem? hx)
            have hx0 := hit_nn _ _ x (List.mem_of_getElem? hx)
            have hb4 : (x % 2 != 1) = false := by rw [hx1]; rfl
            have hjk2 : (j : Int) < (k : Int) := by omega
            clear hcell he hx hx1
            go_wp2
            go_round
            case rel => exact ⟨j + 1, by omega, by go_num⟩
            case measure => simp [intOf]; omega
          · obtain rfl : j = k := by omega
            go_wp2
            go_roundw
            case rel => exact ⟨j + 1, by omega, by omega, by go_num, hxr.tr (hx10.tr hx12)⟩
            case measure => simp [intOf]; omega
    · have hki : ¬ (k : Int) ≤ 40 := by omega
      have Hser := Lib.hid (mod_ser Hp.out)
      have Hord := Lib.hid (mod_ord Hp.out)
      have hol := ordI_le p
      rw [← Hmk.out] at Hord
      go_wp2_with (first | (go_at_call 13; refine (seriesTwo_c p 60 _ _ (Hi.out.ext hxr)).mono ?_; rintro e w13 ⟨v13, rfl, ho13, hx13⟩; (obtain ⟨g, c13, hv13, _, _, _, hcell, _⟩ := ho13.shape (by rw [Hser.out.1]; omega); have Hcell := Lib.hid hcell; rw [Hser.out.1] at hv13; subst hv13; have hs0 := hcell 0 1 (by rw [← Hser.out.2.1]; exact get_of_lt (by rw [Hser.out.1]; omega)); clear hcell)) | (go_at_call 14; refine (orderTwo_c p _ _ ((Hi.out.ext hxr).ext hx13)).mono ?_; rintro e w14 ⟨rfl, rfl⟩))
      have Hi13 := Lib.hid (Hi.out.ext (hxr.tr hx13))
      have Hx13 : Hid (Ext w w13) := Ext.tr X8.out (hxr.tr hx13)
      have Hbits := Lib.hid (ser_bits p)
      obtain ⟨S, hS⟩ : ∃ S, S = serI p 60 := ⟨_, rfl⟩
      rw [← hS] at Hser Hord Hcell Hbits
      obtain ⟨oo, hoo⟩ : ∃ oo, oo = ordI p := ⟨_, rfl⟩
      rw [← hoo] at hol
      rw [← hoo]
      have Hoo := Lib.hid hoo
      obtain ⟨ad, c7, hA, _, _⟩ := Hi13.out.form (by rw [← Hq.out]; omega)
      rw [← Hq.out] at hA
      obtain ⟨rfl, rfl⟩ : A7 = some ad ∧ q7 = c7 := by simp only [Value.slice.injEq, true_and] at hA; exact hA
      clear hS hoo hs0 hA ho13
      go_loopw [153] (fun i wr => ∃ j : Nat, j ≤ 60 ∧ i = .int .i64 j ∧ Ext w13 wr) (fun i _ => 60 - (intOf i).toNat)
      case atStart => exact ⟨0, Nat.zero_le _, rfl, Below.refl _ _⟩
      case round =>
        obtain ⟨j, hj, rfl, hxx⟩ := hrel
        have HcW : Hid (∀ (k : Nat) (x : Int), S[k]? = some x → wr.cell? ⟨g, k, none⟩ = some (.int .i64 x)) := fun k x h => hxx.cell_of (Hcell.out k x h)
        have HiW := Lib.hid (Hi13.out.ext hxx)
        by_cases hj60 : j < 60
        · have hj60i : (j : Int) < 60 := by omega
          go_wp2
          go_loop [19, 158] (fun vv t => ∃ n : Nat, n ≤ q ∧ t = .int .i64 n ∧ vv = .int .i64 (convI (p.take n) S j)) (fun _ t => q - (intOf t).toNat)
          case atStart => exact ⟨0, Nat.zero_le _, rfl, rfl⟩
          case round =>
            obtain ⟨n, hn, rfl, rfl⟩ := hrel
            have hcv := conv_le (p.take n) S Hbits.out j
            rw [List.length_take, ← Hq.out, Nat.min_eq_left hn] at hcv
            by_cases hnq : n < q
            · have hnqi : (n : Int) < (q : Int) := by omega
              obtain ⟨x, hx⟩ : ∃ x, p[n]? = some x := ⟨_, List.getElem?_eq_getElem (by rw [← Hq.out]; exact hnq)⟩
              have hxr2 := Hpok.out.at_ hx
              obtain ⟨e, rfl⟩ := Int.eq_ofNat_of_zero_le hxr2.1
              have hce := HiW.out.cell hx
              have Hn := Lib.hid (conv_take S j hx)
              obtain ⟨cv, hcve⟩ : ∃ cv, cv = convI (p.take n) S j := ⟨_, rfl⟩
              rw [← hcve] at hcv Hn
              rw [← hcve]
              clear hx hcve
              by_cases hej : (e : Int) ≤ (j : Int)
              · rw [if_pos hej, Int.toNat_natCast] at Hn
                obtain ⟨d, hd⟩ : ∃ d, d = j - e := ⟨_, rfl⟩
                have hsub : (j : Int) - (e : Int) = (d : Int) := by omega
                have hd60 : (d : Int) < 60 := by omega
                have hcd := HcW.out d _ (get_of_lt (by rw [Hser.out.1]; omega))
                have hbd := Hbits.out d
                rw [← hd] at Hn
                obtain ⟨sv, hsv⟩ : ∃ sv, sv = S.getD d 0 := ⟨_, rfl⟩
                rw [← hsv] at Hn hcd hbd
                clear hd hsv
                go_wp2
                go_round
                case rel => exact ⟨n + 1, by omega, by go_num, by rw [Hn.out]⟩
                case measure => simp [intOf]; omega
              · rw [if_neg hej, Int.add_zero] at Hn
                go_wp2
                go_round
                case rel => exact ⟨n + 1, by omega, by go_num, by rw [Hn.out]⟩
                case measure => simp [intOf]; omega
            · obtain rfl : n = q := by omega
              have hpar := Hser.out.2.2 j hj60
              have ht : Hid (p.take n = p) := List.take_of_length_le (by rw [← Hq.out]; exact Nat.le_refl _)
              rw [ht.out] at hcv
              rw [ht.out]
              obtain ⟨cv, hcve⟩ : ∃ cv, cv = convI p S j := ⟨_, rfl⟩
              rw [← hcve] at hcv hpar
              rw [← hcve]
              obtain ⟨bb, hb1, hb2⟩ : ∃ bb, (cv % 2 == 1) = bb ∧ ((j : Int) == 0) = bb := by
                refine ⟨_, rfl, ?_⟩
                rw [Bool.eq_iff_iff]
                simp only [beq_iff_eq]
                omega
              clear hcve hpar
              cases bb
              all_goals
                by_cases ho0 : 0 < oo
                · by_cases hjo : (j : Int) + oo < 60
                  · obtain ⟨o, rfl⟩ := Int.eq_ofNat_of_zero_le (show 0 ≤ oo by omega)
                    have h1 := Hord.out.1 j o Hoo.out.symm (by omega) (by omega)
                    have hsum : (j : Int) + (o : Int) = ((j + o : Nat) : Int) := by omega
                    have hcj := HcW.out j _ (get_of_lt (by rw [Hser.out.1]; omega))
                    have hck := HcW.out (j + o) _ (get_of_lt (by rw [Hser.out.1]; omega))
                    have hk60 : ((j + o : Nat) : Int) < 60 := by omega
                    clear hjo
                    generalize j + o = jo at *
                    have hd1 : 0 < o := by omega
                    have hd2 : jo < 60 := by omega
                    obtain ⟨s1, hs1⟩ : ∃ s1, s1 = S.getD j 0 := ⟨_, rfl⟩
                    obtain ⟨s2, hs2⟩ : ∃ s2, s2 = S.getD jo 0 := ⟨_, rfl⟩
                    rw [← hs1] at hcj h1
                    rw [← hs2] at hck h1
                    clear hs1 hs2
                    by_cases he : s2 = s1
                    · have hbe : (s2 != s1) = false := by rw [he]; simp
                      clear h1 he
                      go_wp2_with fail
                      go_quiet (fail)
                      go_wp2
                      go_roundw
                      case rel => first | exact ⟨j + 1, by omega, by go_num, ⟨hxx.os, hxx.tape, hxx.output, hxx.size, hxx.block⟩⟩ | ((repeat apply Exists.intro); exact ⟨⟨j + 1, by omega, by go_num, ⟨hxx.os, hxx.tape, hxx.output, hxx.size, hxx.block⟩⟩, rfl⟩)
                      case measure => simp [intOf]; omega
                    · have hbe : (s2 != s1) = true := by simp [he]
                      have hl0 : decide (0 < lastI p) = false := by
                        rw [decide_eq_false_iff_not]
                        exact fun h => he (h1 h)
                      have hcl := HiW.out.cell (lastI_get (l := p) Hpok.out.1)
                      rw [← Hq.out] at hcl
                      have hn1 : (1 : Int) ≤ (n : Int) := by omega
                      have hnn : (n : Int) - 1 = ((n - 1 : Nat) : Int) := by omega
                      have hnn2 : ((n - 1 : Nat) : Int) < (n : Int) := by omega
                      generalize n - 1 = n1 at *
                      generalize lastI p = lp at *
                      clear h1 he
                      go_wp2_with fail
                      go_quiet (fail)
                      go_wp2
                      go_roundw
                      case rel => first | exact ⟨j + 1, by omega, by go_num, ⟨hxx.os, hxx.tape, hxx.output, hxx.size, hxx.block⟩⟩ | ((repeat apply Exists.intro); exact ⟨⟨j + 1, by omega, by go_num, ⟨hxx.os, hxx.tape, hxx.output, hxx.size, hxx.block⟩⟩, rfl⟩)
                      case measure => simp [intOf]; omega
                  · have hd2 : decide ((j : Int) + oo < 60) = false := by simpa using hjo
                    go_wp2_with fail
                    go_quiet (fail)
                    go_wp2
                    go_roundw
                    case rel => first | exact ⟨j + 1, by omega, by go_num, ⟨hxx.os, hxx.tape, hxx.output, hxx.size, hxx.block⟩⟩ | ((repeat apply Exists.intro); exact ⟨⟨j + 1, by omega, by go_num, ⟨hxx.os, hxx.tape, hxx.output, hxx.size, hxx.block⟩⟩, rfl⟩)
                    case measure => simp [intOf]; omega
                · have hd2 : decide (0 < oo) = false := by simpa using ho0
                  go_wp2_with fail
                  go_quiet (fail)
                  go_wp2
                  go_roundw
                  case rel => first | exact ⟨j + 1, by omega, by go_num, ⟨hxx.os, hxx.tape, hxx.output, hxx.size, hxx.block⟩⟩ | ((repeat apply Exists.intro); exact ⟨⟨j + 1, by omega, by go_num, ⟨hxx.os, hxx.tape, hxx.output, hxx.size, hxx.block⟩⟩, rfl⟩)
                  case measure => simp [intOf]; omega
        · obtain rfl : j = 60 := by omega
          by_cases ho0 : oo ≤ 0
          · go_wp2
            go_ret
            exact ⟨rfl, Ext.tr Hx13.out hxx⟩
          · have hd1 : decide (oo ≤ 0) = false := by simpa using ho0
            by_cases ho40 : 40 < oo
            · go_wp2
              go_ret
              exact ⟨rfl, Ext.tr Hx13.out hxx⟩
            · have hd2 : decide (40 < oo) = false := by simpa using ho40
              obtain ⟨o, rfl⟩ := Int.eq_ofNat_of_zero_le (show 0 ≤ oo by omega)
              have h1 := Hord.out.2 o Hoo.out.symm (by omega) (by omega)
              have hzl : 2 ^ o ≤ 1099511627776 := Nat.pow_le_pow_right (n := 2) (by decide) (show o ≤ 40 by omega)
              have hzw : IntKind.i64.wrap ((2 : Int) ^ o) = ((2 ^ o : Nat) : Int) := by rw [show (2 : Int) ^ o = ((2 ^ o : Nat) : Int) by rw [Int.natCast_pow]; rfl]; exact wrap_nat (by omega)
              have hoi : (0 : Int) ≤ (o : Int) := by omega
              generalize 2 ^ o = z at *
              have hx1 : bits .xor .i64 (z : Int) 1 = ((z ^^^ 1 : Nat) : Int) := i64_xor z 1 (by omega) (by omega)
              go_wp2_with (first | (go_at_call 6; refine (restTwo_c _ _ _).mono ?_; rintro e w15 ⟨rfl, rfl⟩; rw [h1]))
              go_ret
              exact ⟨rfl, Ext.tr Hx13.out hxx⟩

namespace fnModuloGlue
set_option maxRecDepth 100000 in
theorem lifted (os : Os) (started : os.Started) (H : Type) (enc : TypeId × Value → H) :
    ReturnsInHanded {} Try.checked os 3 .any (Rows.fnModuloSpec.pre6 enc Try.prog Try.f3 Rows.fnModuloRow.domain false) (Rows.fnModuloSpec.post enc Try.prog Try.f3 false true false false) := by
  refine returnsInHanded_of_change (C := Try.checked) own started (by kernel_rfl) Try.func3
    (ChangeSpec.witness6 (enc := enc) (C := Try.checked) false ⟨#[], #[.slice none 0 0], []⟩ 8 (by kernel_rfl) (by kernel_rfl) (by kernel_rfl) (by kernel_rfl)) ?_
  intro W base args ds gs before hval0 hW hcnd _
  have hval : ∀ (j : Nat) t v, Try.f3.params[j]? = some t → args[j]? = some v → Value.okWide Try.prog W .any base t v := hval0
  have hW' := hW
  obtain ⟨p, q, hA0, hV, rfl, hfz, hnd⟩ := hW
  have hA : DataW.TrodAll enc Try.prog W 0 (fun _ => true) true Try.f3.params.toList args.toList ds p := hA0
  rw [Try.params3] at hA hval
  obtain ⟨v0, vs0, d0, ds0, p0, q0, hargs, rfl, rfl, h0, r0⟩ := trodAll_cons hA
  obtain ⟨rfl, rfl, rfl⟩ := trodAll_nil r0
  obtain rfl : args = #[v0] := by cases args; simp_all
  obtain ⟨rfl, rfl⟩ := trodVars_none hV
  have k0 := h0
  have lt0 : ∀ x ∈ p0, x.block < W.heap.size := by obtain ⟨m, hm⟩ := k0; exact DataW.trod_lt m _ _ _ hm
  obtain ⟨l0, w0⟩ := bytes_in (hval 0 22 v0 rfl rfl) h0
  clear hA0 hval0
  refine (lawModulo_c l0 v0 W w0).mono fun e W' ⟨he, bel⟩ => ?_
  subst he
  exact ⟨_, rfl, _, _, _, [], _, [], hW', trodAll_mk1 (shut_bool Try.underlying4 _), (trodAll_cons_mk (Below.trod laidOut (by kernel_rfl) (of_decide_eq_true (by kernel_rfl)) k0 bel lt0) trodAll_mk0), rfl, bel.frame _, fun h => by cases h⟩
theorem over : Rows.fnModuloRow.holds Try.pinned (OpenSpec.ofChange Rows.fnModuloSpec) :=
  OpenClaim.holds_of_wide 3 Try.f3 rfl rfl rfl rfl rfl rfl rfl ⟨rfl, rfl, rfl, rfl, rfl⟩ rfl rfl rfl rfl rfl (by kernel_rfl) Try.func3 (by kernel_rfl)
    (of_decide_eq_true (by kernel_rfl)) (by unfold Func.isWrapper; first | (rw [if_pos (by decide +kernel)]; kernel_rfl) | (rw [if_neg (by decide +kernel)]; exact ⟨rfl, rfl⟩))
    (fun os started H enc _ => lifted os started H enc)
end fnModuloGlue
/-- THE STATEMENT. -/
theorem fnModulo_holds : Rows.FnModuloSaid := fnModuloGlue.over
#print axioms fnModulo_holds
end Go.Proofs.Ytgjpepgjlocfkaa
