/- For every row of bytes the law FnCovers returns true: covers are counted in both directions, and two covers make one of the sum of their lengths. Conditions: none beyond the row's own. -/
import Derived.Test.YtpnbcgnbkanebaaDoorPureS
import Derived.Test.YtpnbcgnbkanebaaDoorFcd
import Derived.Test.YtpnbcgnbkanebaaDoorFct
import Derived.Test.YtpnbcgnbkanebaaDoorFic
import Derived.Test.YtpnbcgnbkanebaaDoorFmir2
import Derived.Test.YtpnbcgnbkanebaaDoorFhas
import Derived.Test.YtpnbcgnbkanebaaDoorFlw
import Derived.Test.YtpnbcgnbkanebaaDoorFmp
import Derived.Test.YtpnbcgnbkanebaaDoorGlueB
import Derived.Test.YtpnbcgnbkanebaaDoorGlueK
namespace Go.Proofs.YtpnbcgnbkanebaaDoor
open Go.ChangeShapes Go.WideShapes Go.ChangeAt Go.RowKit
theorem str_get (l : List Int) (h : ∀ x ∈ l, 0 ≤ x ∧ x ≤ 255) (t : Nat) (ht : t < (strOfNums l).size) : (((strOfNums l)[t]'ht).toNat : Int) = l.getD t 0 := by
  rw [strOfNums_size] at ht
  have e : (strOfNums l)[t]'(by rw [strOfNums_size]; exact ht) = UInt8.ofNat (l[t]'ht).toNat := by
    unfold strOfNums
    show (List.map (fun n : Int => UInt8.ofNat n.toNat) l).toArray[t]'(by simpa using ht) = _
    simp
  rw [e, List.getD_eq_getElem?_getD, List.getElem?_eq_getElem ht]
  have := h _ (List.getElem_mem ht)
  simp
  omega
attribute [local irreducible] cntC allC lenC leastC covT pats mirL
set_option maxRecDepth 100000 in
set_option maxHeartbeats 8000000 in
theorem lawCovers_c (l : List Int) (v : Value) (w : World) (hv : Byts w v l) (ht : TabAt 1 Lib.deBruijn64tab w) : Calls Tryd.prog 5 #[v] w fun e w' => e = .returned (.bool true) ∧ Ext w w' := by
  obtain ⟨A, c0, hve⟩ := hv.form0
  have hlm : l.length ≤ 9223372036854775807 := by obtain ⟨_, c', _, h1, h2, _⟩ := hv; unfold maxLen at h2; omega
  obtain ⟨m, hm⟩ : ∃ m, m = l.length := ⟨_, rfl⟩
  rw [← hm] at hve hlm
  subst hve
  have Hv := Lib.hid hv
  have HT := Lib.hid ht
  clear hv hm ht
  by_cases hle : m ≤ 1048576
  rotate_left
  · have hle2 : (1048576 : Int) < (m : Int) := by omega
    go_enter Tryd.func5, Tryd.ntmps5
    go_wp2
    go_ret
    exact ⟨rfl, Below.refl _ _⟩
  have hle2 : ¬ (1048576 : Int) < (m : Int) := by omega
  go_enter Tryd.func5, Tryd.ntmps5
  have tok : True := trivial
  go_wp2_with (first | (go_at_call 12; clear tok; refine (makePattern_c l 0 _ _ Hv.out (by omega)).mono ?_; rintro e w1 ⟨v1, p, rfl, hpw1, how1, hxw1⟩; (have Hp := Lib.hid hpw1; have Ho := Lib.hid how1; have X1 : Hid (Ext w w1) := hxw1; obtain ⟨A1, q1, hv1, _, _⟩ := how1.slice; obtain ⟨k, hk⟩ : ∃ k, k = p.length := ⟨_, rfl⟩; have Hk := Lib.hid hk; rw [← hk] at hv1; subst hv1; clear hk hpw1 how1 hxw1)))
  have hpok := pats_ok Hp.out
  have hkk : 1 ≤ k ∧ k ≤ 13 := by have h1 := hpok.1; have h2 := hpok.len; have := Hk.out; omega
  have Hpok := Lib.hid hpok
  have Hmir : Hid (mirI p = mirL p) := by unfold Hid mirI; rw [if_pos ((patB_iff _).2 hpok)]
  have Hmir2 : Hid (mirI (mirL p) = p) := by unfold Hid mirI; rw [if_pos ((patB_iff _).2 (mirL_ok hpok)), mirL_mir hpok]
  clear hpok
  have tok : True := trivial
  go_wp2_with (first | (go_at_call 13; clear tok; refine (mirrorPattern_c p _ _ Ho.out.ints).mono ?_; rintro e w2 ⟨v2, rfl, ho2, hx2⟩; (rw [Hmir.out] at ho2; obtain ⟨A2, n2, q2, rfl⟩ := ho2.form; have Hm := Lib.hid ho2; have X2 : Hid (Ext w w2) := Ext.tr X1.out hx2; clear ho2)))
  have Hi2 := Lib.hid (Ho.out.ints.ext hx2)
  clear hx2
  have tok : True := trivial
  go_wp2_with (first | (go_at_call 14; clear tok; refine (makeNum_c l 20 _ _ (Hv.out.ext X2.out) (by omega)).mono ?_; rintro e w3 ⟨a0, hla0, rfl, hx3⟩; (obtain ⟨n, hnn⟩ : ∃ n, n = a0 % 13 := ⟨_, rfl⟩; have hni : (a0 : Int) % 13 = (n : Int) := (by omega); have hn12 : n ≤ 12 := (by omega); clear hnn)))
  have F := Lib.hid (pats_covP Hp.out hn12)
  obtain ⟨L, hL⟩ : ∃ L, L = cvs p n := ⟨_, rfl⟩
  obtain ⟨c, hc⟩ : ∃ c, c = L.length := ⟨_, rfl⟩
  have Hall : Hid (allC p (n : Int) = L) := by rw [hL]; exact allC_t Hpok.out (by omega)
  have Hcn : Hid (cntC p (n : Int) = (c : Int)) := by rw [hc, hL]; exact cntC_t Hpok.out (by omega)
  have Hcm : Hid (cntC (mirL p) (n : Int) = (c : Int)) := by rw [hc, hL, ← F.out.mir]; exact cntC_t (mirL_ok Hpok.out) (by omega)
  have hcle : c ≤ 131072 := by rw [hc, hL]; exact cvs16_len p n (by omega)
  have HL := Lib.hid hL
  have Hc := Lib.hid hc
  have X3 : Hid (Ext w w3) := X2.out.tr hx3
  have Hi3 := Lib.hid (Hi2.out.ext hx3)
  have Hm3 := Lib.hid (Hm.out.ints.ext hx3)
  have T3 := Lib.hid (TabAt.ext HT.out X3.out)
  have hn64 : I64 (n : Int) := by unfold I64; omega
  clear hL hc hx3
  have tok : True := trivial
  go_wp2_with (first | (go_at_call 15; clear tok; refine (coversOf_c p (n : Int) _ _ Hi3.out (by first | assumption | (unfold I64; omega)) T3.out).mono ?_; rintro e w4 ⟨v4, us, rfl, hl4, hx4⟩; (rw [Hall.out] at hl4; have hus : us.length = c := (by rw [hl4.2.1]; exact Hc.out.symm); obtain ⟨A4, c4, hv4, _, _⟩ := hl4.form; rw [hus] at hv4; subst hv4; have Hl4 := Lib.hid hl4; have Hus := Lib.hid hus; clear hl4 hus)))
  have tok : True := trivial
  go_wp2_with (first | (go_at_call 16; clear tok; refine (countCovers_c p (n : Int) _ _ (Hi3.out.ext hx4) (by first | assumption | (unfold I64; omega)) (TabAt.ext T3.out hx4)).mono ?_; rintro e w5 ⟨rfl, hx5⟩; rw [Hcn.out]))
  have Hl5 := Lib.hid (Hl4.out.ext hx5)
  have Hi5 := Lib.hid ((Hi3.out.ext hx4).ext hx5)
  have Hm5 := Lib.hid ((Hm3.out.ext hx4).ext hx5)
  have X5 : Hid (Ext w3 w5) := hx4.tr hx5
  clear hx4 hx5 Hl4
  have tok : True := trivial
  go_wp2_with (first | (go_at_call 16; clear tok; refine (countCovers_c (mirL p) (n : Int) _ _ Hm5.out (by first | assumption | (unfold I64; omega)) (TabAt.ext T3.out X5.out)).mono ?_; rintro e w6 ⟨rfl, hx6⟩; rw [Hcm.out]) | (go_at_call 17; refine (isMir_c p _ _ (Hi5.out.ext hx6)).mono ?_; rintro e w7 ⟨b7, rfl, hb7, hx7⟩))
  have Hl7 := Lib.hid ((Hl5.out.ext hx6).ext hx7)
  have Hi7 := Lib.hid ((Hi5.out.ext hx6).ext hx7)
  have Hm7 := Lib.hid ((Hm5.out.ext hx6).ext hx7)
  have X7 : Hid (Ext w3 w7) := X5.out.tr (hx6.tr hx7)
  clear hx6 hx7 Hl5 Hi5 Hm5
  have tok : True := trivial
  go_wp2_with (first | (go_at_call 18; clear tok; refine (lawSame_c p (mirL p) _ _ _ Hi7.out Hm7.out).mono ?_; rintro e w8 ⟨b8, rfl, hb8, hx8⟩; (obtain rfl : b8 = b7 := bool_eq hb8 (hb7.trans ⟨fun h => h.2.symm, fun h => ⟨Hpok.out, h.symm⟩⟩); clear hb7 hb8)))
  have tok : True := trivial
  go_wp2_with (first | (go_at_call 13; clear tok; refine (mirrorPattern_c (mirL p) _ _ (Hm7.out.ext hx8)).mono ?_; rintro e w9 ⟨v9, rfl, ho9, hx9⟩; (rw [Hmir2.out] at ho9)))
  have Hl9 := Lib.hid ((Hl7.out.ext hx8).ext hx9)
  have Hi9 := Lib.hid ((Hi7.out.ext hx8).ext hx9)
  have Ho9 := Lib.hid ho9.ints
  have X9 : Hid (Ext w3 w9) := X7.out.tr (hx8.tr hx9)
  clear hx8 hx9 ho9 Hl7 Hi7 Hm7
  have hcase : (¬ (0 : Int) < (n : Int)) ∨ ((0 : Int) < (n : Int) ∧ ¬ (0 : Int) < (c : Int)) ∨ ((0 : Int) < (n : Int) ∧ (0 : Int) < (c : Int) ∧ (n : Int) % (k : Int) = 0) := by
    by_cases h0 : n = 0
    · exact .inl (by omega)
    · by_cases h1 : c = 0
      · exact .inr (.inl ⟨by omega, by omega⟩)
      · have := F.out.div (by omega) (by rw [← HL.out, ← Hc.out]; omega)
        rw [← Hk.out] at this
        exact .inr (.inr ⟨by omega, by omega, by rw [← Int.natCast_emod, this]; rfl⟩)
  have hki : (1 : Int) ≤ (k : Int) := by omega
  have Hcase := Lib.hid hcase
  rcases hcase with hca | ⟨hca, hcb⟩ | ⟨hca, hcb, hcc⟩
  all_goals
    have tok : True := trivial
    go_wp2_with (first | (go_at_call 18; clear tok; refine (lawSame_c p p _ _ _ Ho9.out Hi9.out).mono ?_; rintro e w10 ⟨b10, rfl, hb10, hx10⟩; (obtain rfl := hb10.2 rfl; clear hb10)))
  all_goals
    have Hl10 := Lib.hid (Hl9.out.ext hx10)
    have Hi10 := Lib.hid (Hi9.out.ext hx10)
    have X10 : Hid (Ext w3 w10) := X9.out.tr hx10
    have T10 := Lib.hid (TabAt.ext T3.out X10.out)
    have HCA := Lib.hid hca
    try have HCB := Lib.hid hcb
    clear hx10 hca
    try clear hcb
    try clear hcc
    go_loopw [76] (fun i wr => ∃ j : Nat, j ≤ c ∧ i = .int .i64 j ∧ Ext w10 wr) (fun i _ => c - (intOf i).toNat)
    case atStart => exact ⟨0, Nat.zero_le _, rfl, Below.refl _ _⟩
    case round =>
      obtain ⟨j, hj, rfl, hxx⟩ := hrel
      by_cases hjc : j < c
      · obtain ⟨x, hx⟩ : ∃ x, L[j]? = some x := ⟨_, List.getElem?_eq_getElem (by rw [← Hc.out]; exact hjc)⟩
        obtain ⟨u, hu⟩ : ∃ u, us[j]? = some u := ⟨_, List.getElem?_eq_getElem (by rw [Hus.out]; exact hjc)⟩
        obtain ⟨g, c5, hA, _, _, _⟩ := Hl10.out.shape (by rw [Hus.out]; omega)
        rw [Hus.out] at hA
        obtain ⟨rfl, rfl⟩ : A4 = some ⟨g, 0, none⟩ ∧ c4 = c5 := by simp only [Value.slice.injEq, true_and] at hA; exact hA
        have hown := Hl10.out.2.2.1 j u x hu hx
        have hcu := (Hl10.out.ext hxx).cell hu
        obtain ⟨Au, cu, hue, _, _⟩ := hown.slice
        obtain ⟨xl, hxl⟩ : ∃ xl, xl = x.length := ⟨_, rfl⟩
        rw [← hxl] at hue
        subst hue
        have HU := Lib.hid (hown.ints.ext hxx)
        obtain ⟨a, ha, hal, hxm, hav, hac⟩ := F.out.one x (by rw [← HL.out]; exact List.mem_of_getElem? hx)
        rw [← hxl, ← Hk.out] at hxm
        rw [← hxl, ← Hk.out] at hac
        have hIs : Hid (IsCov p (n : Int) x) := ⟨Hpok.out, by omega, by omega, by rw [Int.toNat_natCast, ← HL.out]; exact List.mem_of_getElem? hx⟩
        have hct := covT_t Hpok.out (by omega) ha
        obtain ⟨S, hS⟩ : ∃ S, S = strOfNums (a.map fun v => 97 + v) := ⟨_, rfl⟩
        have HS : Hid (strOfNums (covT p (n : Int) x) = S) := by rw [hct, hS]; rfl
        have hSz : S.size = n := by rw [hS, strOfNums_size, List.length_map]; exact hal
        have HSb : Hid (∀ t (ht : t < S.size), ((S[t]'ht).toNat : Int) = 97 + a.getD t 0) := by
          subst hS
          intro t ht
          rw [str_get _ (fun y hy => by
            rw [List.mem_map] at hy
            obtain ⟨v, hv, rfl⟩ := hy
            have := hav v hv
            omega) t ht]
          rw [strOfNums_size, List.length_map] at ht
          simp [List.getD_eq_getElem?_getD, List.getElem?_map, List.getElem?_eq_getElem ht]
        have Hac := Lib.hid hac
        have Hal := Lib.hid hal
        have hxn : xl ≤ n := by have := Nat.mul_le_mul_left xl hkk.1; omega
        have hmi : (xl : Int) * (k : Int) = (n : Int) := by rw [← Int.natCast_mul, hxm]
        have hwn : IntKind.i64.wrap (n : Int) = (n : Int) := IntWalk.i64_in _ (by omega)
        have hji : (j : Int) < (c : Int) := by omega
        have Hx := Lib.hid hx
        have hjj : (¬ (0 : Int) < (j : Int)) ∨ ∃ (j1 : Nat) (y : List Int) (uy : Value), (0 : Int) < (j : Int) ∧ (j : Int) - 1 = (j1 : Int) ∧ (j1 : Int) < (c : Int) ∧ wr.cell? ⟨g, j1, none⟩ = some uy ∧ Hid (Ints wr uy y) ∧ Hid (lexB y x = true) := by
          by_cases h0 : j = 0
          · exact .inl (by omega)
          · obtain ⟨j1, rfl⟩ : ∃ j1, j = j1 + 1 := ⟨j - 1, by omega⟩
            obtain ⟨y, hy⟩ : ∃ y, L[j1]? = some y := ⟨_, List.getElem?_eq_getElem (by rw [← Hc.out]; omega)⟩
            obtain ⟨uy, huy⟩ : ∃ uy, us[j1]? = some uy := ⟨_, List.getElem?_eq_getElem (by rw [Hus.out]; omega)⟩
            exact .inr ⟨j1, y, uy, by omega, by omega, by omega, (Hl10.out.ext hxx).cell huy, (Hl10.out.2.2.1 j1 uy y huy hy).ints.ext hxx, F.out.adj j1 y x (by rw [← HL.out]; exact hy) (by rw [← HL.out]; exact hx)⟩
        clear hx hu hA hown hxl ha hal hxm hav hac hct hS
        rcases hjj with hj0 | ⟨j1, y, uy, hj0, hj1, hj1c, hcy, HY, HLex⟩
        all_goals
          have tok : True := trivial
          go_wp2_with (first | (go_at_call 11; clear tok; refine (coverText_c p (n : Int) x _ _ _ (Hi10.out.ext hxx) (by first | assumption | (unfold I64; omega)) HU.out (TabAt.ext T10.out hxx)).mono ?_; rintro e w11 ⟨rfl, hx11⟩; rw [HS.out]))
        all_goals
          have HU11 := Lib.hid (HU.out.ext hx11)
          have X11 : Hid (Ext w10 w11) := hxx.tr hx11
          have Hi11 := Lib.hid (Hi10.out.ext X11.out)
          have T11 := Lib.hid (TabAt.ext T10.out X11.out)
          try have hcy1 := hx11.cell_of hcy
          try have HY1 := Lib.hid (HY.out.ext hx11)
          clear hx11 hxx
          try clear hcy
          go_wp2_with (first | (go_at_call 8; refine (isCover_c p (n : Int) x _ _ _ Hi11.out (by first | assumption | (unfold I64; omega)) HU11.out T11.out).mono ?_; rintro e w12 ⟨b12, rfl, hb12, hx12⟩; (obtain rfl := hb12.2 hIs.out; clear hb12; try have hcy2 := hx12.cell_of hcy1)) | (go_at_call 19; refine (before_c y x _ _ _ (HY1.out.ext hx12) (HU11.out.ext hx12)).mono ?_; rintro e wz ⟨b13, rfl, hb13, rfl⟩; (obtain rfl := hb13.2 HLex.out; clear hb13)))
        all_goals
          have X12 : Hid (Ext w10 w12) := X11.out.tr hx12
          clear hx12
          go_loop [121] (fun i => ∃ z : Nat, z ≤ xl ∧ i = .int .i64 z) (fun i => xl - (intOf i).toNat)
          case atStart => exact ⟨0, Nat.zero_le _, rfl⟩
          case round =>
            obtain ⟨z, hz, rfl⟩ := hrel
            by_cases hzx : z < xl
            · have hzi : (z : Int) < (xl : Int) := by omega
              go_wp2
              go_loop [12, 13] (fun s t => ∃ q : Nat, q ≤ n ∧ t = .int .i64 q ∧ s = .int .i64 (cntL (a.take q) z : Nat)) (fun _ t => n - (intOf t).toNat)
              case atStart => exact ⟨0, Nat.zero_le _, rfl, rfl⟩
              case round =>
                obtain ⟨q, hq, rfl, rfl⟩ := hrel
                have hcl : cntL (a.take q) z ≤ 24 := by have := cntL_le (a.take q) z; rw [List.length_take] at this; omega
                by_cases hqn : q < n
                · have hqi : (q : Int) < (n : Int) := by omega
                  have hqS : q < S.size := by omega
                  have hbt := HSb.out q hqS
                  have hlt := UInt8.toNat_lt (S[q]'hqS)
                  have haq : a[q]? = some (a.getD q 0) := get_of_lt (by rw [Hal.out]; exact hqn)
                  by_cases hv : a.getD q 0 = (z : Int)
                  · have hb : (((S[q]'hqS).toNat : Int) == 97 + (z : Int)) = true := by rw [hbt, hv]; simp
                    rw [hv] at haq
                    have Hn := Lib.hid (cntL_t haq)
                    clear hbt haq hv
                    go_wp2
                    go_round
                    case rel => exact ⟨q + 1, by omega, by go_num, by rw [Hn.out]; go_num⟩
                    case measure => simp [intOf]; omega
                  · have hb : (((S[q]'hqS).toNat : Int) == 97 + (z : Int)) = false := by rw [beq_eq_false_iff_ne, hbt]; omega
                    have Hn := Lib.hid (cntL_f haq hv)
                    clear hbt haq hv
                    go_wp2
                    go_round
                    case rel => exact ⟨q + 1, by omega, by go_num, by rw [Hn.out]⟩
                    case measure => simp [intOf]; omega
                · obtain rfl : q = n := by omega
                  have hat : a.take q = a := List.take_of_length_le (by rw [Hal.out]; exact Nat.le_refl _)
                  have hcz := Hac.out z hzx
                  rw [hat] at hcl ⊢
                  rw [hcz]
                  clear hat hcz hcl
                  go_wp2
                  go_round
                  case rel => exact ⟨z + 1, by omega, by go_num⟩
                  case measure => simp [intOf]; omega
            · obtain rfl : z = xl := by omega
              go_wp2
              go_roundw
              case rel => exact ⟨j + 1, by omega, by go_num, X12.out⟩
              case measure => simp [intOf]; omega
      · obtain rfl : j = c := by omega
        have XW : Hid (Ext w wr) := X3.out.tr (X10.out.tr hxx)
        have HiW := Lib.hid (Hi10.out.ext hxx)
        have TW := Lib.hid (TabAt.ext T10.out hxx)
        have hca := HCA.out
        try have hcb := HCB.out
        have hn0 : ((n : Int) == 0) = decide (n = 0) := by by_cases h : n = 0 <;> simp [h]
        first
          | (have hd : decide (n = 0) = true := by (have := hca; simp; omega))
          | (have hd : decide (n = 0) = false := by (have := hca; simp; omega))
        rw [hd] at hn0
        try (have Hmm : Hid (∀ b : Bool, (b = true ↔ (n : Int) ∈ lenC p) → b = true) := fun b hb => hb.2 ((mem_lenC Hpok.out (by omega) (by omega)).2 (by rw [← HL.out, ← Hc.out]; omega)))
        try (have Hmm : Hid (∀ b : Bool, (b = true ↔ (n : Int) ∈ lenC p) → b = false) := fun b hb => bool_f hb fun h => by (have := (mem_lenC Hpok.out (by omega) (by omega)).1 h; rw [← HL.out, ← Hc.out] at this; omega))
        clear hxx hd
        have tok : True := trivial
        go_wp2_with (first | (go_at_call 14; clear tok; refine (makeNum_c l 22 _ _ (Hv.out.ext XW.out) (by omega)).mono ?_; rintro e w14 ⟨b0, hlb0, rfl, hx14⟩; (obtain ⟨kk, hkn⟩ : ∃ kk, kk = b0 % 12 := ⟨_, rfl⟩; have hbi : (b0 : Int) % 12 = (kk : Int) := (by omega); have hk11 : kk ≤ 11 := (by omega); clear hkn)))
        have hsup := F.out.sup kk hk11
        rw [← HL.out, ← Hc.out] at hsup
        have hN24 := cvs_len p (n + kk) (by omega)
        obtain ⟨N, hN⟩ : ∃ N, N = (cvs p (n + kk)).length := ⟨_, rfl⟩
        obtain ⟨M, hM⟩ : ∃ M, M = (cvs p kk).length := ⟨_, rfl⟩
        have HN : Hid (cntC p ((n : Int) + (kk : Int)) = (N : Int)) := by rw [hN, ← Int.natCast_add]; exact cntC_t Hpok.out (by omega)
        have HM : Hid (cntC p (kk : Int) = (M : Int)) := by rw [hM]; exact cntC_t Hpok.out (by omega)
        have H0 : Hid (cntC p 0 = 1) := by have := cntC_t Hpok.out (k := 0) (by omega); rw [cov_zero Hp.out] at this; exact this
        rw [← hN] at hN24 hsup
        rw [← hM] at hsup
        obtain ⟨Z, hZ⟩ : ∃ Z, Z = j * M := ⟨_, rfl⟩
        rw [← hZ] at hsup
        have hmul : (j : Int) * (M : Int) = (Z : Int) := by rw [hZ, Int.natCast_mul]
        have hwz : IntKind.i64.wrap (Z : Int) = (Z : Int) := IntWalk.i64_in _ (by omega)
        have hZi : (Z : Int) ≤ (N : Int) := by omega
        have hnk64 : I64 ((n : Int) + (kk : Int)) := by unfold I64; omega
        have hkk64 : I64 (kk : Int) := by unfold I64; omega
        have h064 : I64 0 := by unfold I64; omega
        clear hN hM hZ
        go_wp2_with (first | (go_at_call 20; refine (leastCover_c p _ _ (HiW.out.ext hx14) (TabAt.ext TW.out hx14)).mono ?_; rintro e w15 ⟨rfl, hx15⟩) | (go_at_call 21; refine (coverLengths_c p _ _ ((HiW.out.ext hx14).ext hx15) (TabAt.ext TW.out (hx14.tr hx15))).mono ?_; rintro e w16 ⟨v16, rfl, ho16, hx16⟩))
        have Hi16 := Lib.hid (((HiW.out.ext hx14).ext hx15).ext hx16)
        have X16 : Hid (Ext w w16) := XW.out.tr (hx14.tr (hx15.tr hx16))
        have T16 := Lib.hid (TabAt.ext HT.out X16.out)
        have hll := lenC_len p
        obtain ⟨A16, c16, hv16, _, _⟩ := ho16.slice
        obtain ⟨e, he⟩ : ∃ e, e = (lenC p).length := ⟨_, rfl⟩
        rw [← he] at hv16 hll
        subst hv16
        have hcase2 : (e = 0 ∧ leastC p = 0) ∨ ∃ (g Lc : Nat), A16 = some ⟨g, 0, none⟩ ∧ (0 : Int) < (e : Int) ∧ leastC p = (Lc : Int) ∧ (0 : Int) < (Lc : Int) ∧ ((Lc : Int) == 0) = false ∧ w16.cell? ⟨g, 0, none⟩ = some (.int .i64 (Lc : Int)) := by
          by_cases h0 : e = 0
          · exact .inl ⟨h0, leastC_nil (by rw [← he]; exact h0)⟩
          · have h1 := leastC_pos (p := p) (by omega)
            obtain ⟨Lc, hLc⟩ := Int.eq_ofNat_of_zero_le (show 0 ≤ leastC p by omega)
            obtain ⟨g, c17, hA, _, _, _, hcell, _⟩ := ho16.shape (by omega)
            have h2 := hcell 0 _ (leastC_get (by omega))
            rw [hLc] at h1 h2
            simp only [Value.slice.injEq] at hA
            exact .inr ⟨g, Lc, hA.1, by omega, hLc, by omega, by rw [beq_eq_false_iff_ne]; omega, h2⟩
        have Ho16 := Lib.hid ho16
        clear hx14 hx15 hx16 he ho16
        rcases hcase2 with ⟨rfl, hl0⟩ | ⟨g16, Lc, rfl, he0, hl0, hl1, hl2, hc16⟩
        all_goals
          rw [hl0]
          clear hl0
          have tok : True := trivial
          go_wp2_with (first | (go_at_call 16; clear tok; refine (countCovers_c p ((n : Int) + (kk : Int)) _ _ Hi16.out (by first | assumption | (unfold I64; omega)) T16.out).mono ?_; rintro e w17 ⟨rfl, hx17⟩; rw [HN.out]))
          have tok : True := trivial
          go_wp2_with (first | (go_at_call 16; clear tok; refine (countCovers_c p (kk : Int) _ _ (Hi16.out.ext hx17) (by first | assumption | (unfold I64; omega)) (TabAt.ext T16.out hx17)).mono ?_; rintro e w18 ⟨rfl, hx18⟩; (rw [HM.out]; try have hc18 := (hx17.tr hx18).cell_of hc16)))
          have Hi18 := Lib.hid ((Hi16.out.ext hx17).ext hx18)
          have Ho18 := Lib.hid ((Ho16.out.ints.ext hx17).ext hx18)
          have X18 : Hid (Ext w w18) := X16.out.tr (hx17.tr hx18)
          clear hx17 hx18
          try clear hc16
          have tok : True := trivial
          go_wp2_with (first | (go_at_call 22; refine (lawHas_c (lenC p) _ _ _ Ho18.out).mono ?_; rintro e wz ⟨b19, rfl, hb19, rfl⟩; (obtain rfl := Hmm.out _ hb19; clear hb19)) | (go_at_call 16; clear tok; refine (countCovers_c p 0 _ _ Hi18.out (by first | assumption | (unfold I64; omega)) (TabAt.ext HT.out X18.out)).mono ?_; rintro e w20 ⟨rfl, hx20⟩; rw [H0.out]))
          go_ret
          exact ⟨rfl, X18.out.tr hx20⟩

namespace fnCoversGlue
set_option maxRecDepth 100000 in
theorem lifted (os : Os) (started : os.Started) (H : Type) (enc : TypeId × Value → H) :
    ReturnsInHanded {} Tryd.checked os 5 .any (fun w args => (Rows.fnCoversSpec.pre enc Tryd.prog Tryd.f5 [] false w args ∧ laidMetH Tryd.prog laidD w) ∧ sizedMet enc Tryd.prog Tryd.f5 (OpenSpec.ofChange Rows.fnCoversSpec) false w args) (Rows.fnCoversSpec.post enc Tryd.prog Tryd.f5 false true false false) := by
  refine returnsInHanded_of_change_and (C := Tryd.checked) (X := fun w _ => laidMetH Tryd.prog laidD w) (fun _ _ _ hh h => h.of_heap hh) own started (by kernel_rfl) Tryd.func5
    (ChangeSpec.witness_shaped (enc := enc) (C := Tryd.checked) (os := os) (X := fun w _ => laidMetH Tryd.prog laidD w) false (World.doorLaid Tryd.prog 400 os) #[.slice none 0 0] 8 rfl (World.shaped_of_RefB (by kernel_rfl) (by kernel_rfl)) (by kernel_rfl) (by kernel_rfl) (by kernel_rfl) (door_met os _)) ?_
  intro W base args ds gs before hval0 hW _ _ hL _
  have hval : ∀ (j : Nat) t v, Tryd.f5.params[j]? = some t → args[j]? = some v → Value.okWide Tryd.prog W .any base t v := hval0
  have hW' := hW
  obtain ⟨p, q, hA0, hV, rfl, hfz, hnd⟩ := hW
  have hA : DataW.TrodAll enc Tryd.prog W 0 (fun _ => true) true Tryd.f5.params.toList args.toList ds p := hA0
  rw [Tryd.params5] at hA hval
  obtain ⟨v0, vs0, d0, ds0, p0, q0, hargs, rfl, rfl, h0, r0⟩ := trodAll_cons hA
  obtain ⟨rfl, rfl, rfl⟩ := trodAll_nil r0
  obtain rfl : args = #[v0] := by cases args; simp_all
  obtain ⟨rfl, rfl⟩ := trodVars_none hV
  have k0 := h0
  have lt0 : ∀ x ∈ p0, x.block < W.heap.size := by obtain ⟨m, hm⟩ := k0; exact DataW.trod_lt m _ _ _ hm
  obtain ⟨l0, w0⟩ := bytes_in (hval 0 27 v0 rfl rfl) h0
  clear hA0 hval0
  refine (lawCovers_c l0 v0 W w0 (tab_of hL)).mono fun e W' ⟨he, bel⟩ => ?_
  subst he
  exact ⟨_, rfl, _, _, _, [], _, [], hW', trodAll_mk1 (shut_bool Tryd.underlying4 _), (trodAll_cons_mk (Below.trod laidOut (by kernel_rfl) (of_decide_eq_true (by kernel_rfl)) k0 bel lt0) trodAll_mk0), rfl, bel.frame _, fun h => by cases h⟩
theorem over : Rows.fnCoversRow.holds Tryd.pinned (OpenSpec.ofChange Rows.fnCoversSpec) :=
  OpenClaim.holds_of_wide 5 Tryd.f5 rfl rfl rfl rfl rfl rfl rfl ⟨rfl, rfl, rfl, rfl, rfl⟩ rfl rfl rfl rfl rfl (by kernel_rfl) Tryd.func5 (by kernel_rfl)
    (of_decide_eq_true (by kernel_rfl)) (by unfold Func.isWrapper; first | (rw [if_pos (by decide +kernel)]; kernel_rfl) | (rw [if_neg (by decide +kernel)]; exact ⟨rfl, rfl⟩))
    (fun os started H enc _ => lifted os started H enc)
end fnCoversGlue
theorem fnCovers_row : Rows.FnCoversSaid := fnCoversGlue.over
/-- THE STATEMENT: the tied card. -/
theorem fnCovers_holds : Rows.FnCoversCardSaid :=
  Claim7.holds_tied_plain_at .later [] [.data, .data] true (true, "bc658f82d9fcc92c8d6e5f91ba9b7d79da6686ebec8cec489acae7accacc7ebf") false
    fnCovers_row (fun _ h => by cases h) (by kernel_rfl) (fun _ h => by cases h) fnCovers_row_tie rfl ⟨rfl, rfl⟩ (by kernel_rfl) rfl
    (fun f fn hf hfn => by
      obtain rfl : f = 5 := Option.some.inj ((show Tryd.prog.funcNamed "loop.example/g03204/laws.FnCovers" = some 5 by kernel_rfl).symm.trans hf) |>.symm
      obtain rfl : fn = Tryd.f5 := (Option.some.inj (Tryd.func5.symm.trans hfn)).symm
      exact ⟨by kernel_rfl, fun j t ht => by
        rw [Tryd.params5] at ht
        have hm : t ∈ [27] := by simpa using Array.mem_of_getElem? ht
        have hall : ([27].all fun u => !Tryd.prog.wantsStandIn u) = true := by kernel_rfl
        exact (show Tryd.prog.wantsStandIn t = false by simpa using List.all_eq_true.1 hall t hm)⟩)
    (by kernel_rfl)
#print axioms fnCovers_holds
end Go.Proofs.YtpnbcgnbkanebaaDoor
