/- For every row of bytes the law FnLine returns true: a pattern that goes on fills blocks, tiles its period, and its mirror goes on as long. Conditions: none beyond the row's own. -/
import Derived.Test.YtkdodbhkobefiaaDoorPureY
import Derived.Test.YtkdodbhkobefiaaDoorFcc
import Derived.Test.YtkdodbhkobefiaaDoorFlt
import Derived.Test.YtkdodbhkobefiaaDoorFmp
import Derived.Test.YtkdodbhkobefiaaDoorGlueB
import Derived.Test.YtkdodbhkobefiaaDoorGlueK
namespace Go.Proofs.YtkdodbhkobefiaaDoor
open Go.ChangeShapes Go.WideShapes Go.ChangeAt Go.RowKit
theorem esI_getD {es : List Nat} {j : Nat} (h : j < es.length) : (esI es)[j]? = some ((es.getD j 0 : Nat) : Int) := esI_get (by simp [List.getD_eq_getElem?_getD, List.getElem?_eq_getElem h])
attribute [local irreducible] linP failT blkLen outc entL entB ltN ltP ltE ltB cntC pats esI
theorem lit_ok (w : World) (l : List Int) (hl : l.length ≤ 1000) (hr : ∀ x ∈ l, I64 x) : Ints (w.alloc (.cells (l.map (Value.int .i64)).toArray 3)) (.slice (some ⟨w.heap.size, 0, none⟩) l.length l.length) l := (own_litP w l (Nat.le_refl _) hl hr).ints
theorem lit1 (w : World) : Ints (w.alloc (.cells #[.int .i64 0, .int .i64 2] 3)) (.slice (some ⟨w.heap.size, 0, none⟩) 2 2) [0, 2] := lit_ok w [0, 2] (by decide) (by intro x hx; simp at hx; unfold I64; omega)
theorem lit2 (w : World) : Ints (w.alloc (.cells #[.int .i64 0, .int .i64 1, .int .i64 3] 3)) (.slice (some ⟨w.heap.size, 0, none⟩) 3 3) [0, 1, 3] := lit_ok w [0, 1, 3] (by decide) (by intro x hx; simp at hx; unfold I64; omega)
theorem lit3 (w : World) : Ints (w.alloc (.cells #[.int .i64 0, .int .i64 1, .int .i64 4, .int .i64 5] 3)) (.slice (some ⟨w.heap.size, 0, none⟩) 4 4) [0, 1, 4, 5] := lit_ok w [0, 1, 4, 5] (by decide) (by intro x hx; simp at hx; unfold I64; omega)
theorem lit1b (w : World) (a b : Obj) : Ints (((w.alloc a).alloc b).alloc (.cells #[.int .i64 0, .int .i64 2] 3)) (.slice (some ⟨w.heap.size + 1 + 1, 0, none⟩) 2 2) [0, 2] := by
  have h := lit1 ((w.alloc a).alloc b)
  simp only [World.size_alloc] at h
  exact h
set_option maxRecDepth 100000 in
set_option maxHeartbeats 8000000 in
theorem lawLine_c (l : List Int) (v : Value) (w : World) (hv : Byts w v l) (ht : TabAt 1 Lib.deBruijn64tab w) : Calls Tryd.prog 3 #[v] w fun e w' => e = .returned (.bool true) ∧ Ext w w' := by
  obtain ⟨A, c0, hve⟩ := hv.form0
  have hlm : l.length ≤ 9223372036854775807 := by obtain ⟨_, c', _, h1, h2, _⟩ := hv; unfold maxLen at h2; omega
  obtain ⟨m, hm⟩ : ∃ m, m = l.length := ⟨_, rfl⟩
  rw [← hm] at hve hlm
  subst hve
  have Hv := Lib.hid hv
  have HT := Lib.hid ht
  clear hv hm ht
  by_cases hle : m ≤ 1048576
  rotate_left
  · have hle2 : (1048576 : Int) < (m : Int) := by omega
    go_enter Tryd.func3, Tryd.ntmps3
    go_wp2
    go_ret
    exact ⟨rfl, Below.refl _ _⟩
  have hle2 : ¬ (1048576 : Int) < (m : Int) := by omega
  go_enter Tryd.func3, Tryd.ntmps3
  have tok : True := trivial
  go_wp2_with (first | (go_at_call 4; clear tok; refine (makePattern_c l 0 _ _ Hv.out (by omega)).mono ?_; rintro e w1 ⟨v1, p, rfl, hpw1, how1, hxw1⟩; (have Hp := Lib.hid hpw1; have Ho := Lib.hid how1; have X1 : Hid (Ext w w1) := hxw1; obtain ⟨A1, q1, hv1, _, _⟩ := how1.slice; obtain ⟨k, hk⟩ : ∃ k, k = p.length := ⟨_, rfl⟩; have Hk := Lib.hid hk; rw [← hk] at hv1; subst hv1; clear hk hpw1 how1 hxw1)))
  have hpok := pats_ok Hp.out
  have hkk : 1 ≤ k ∧ k ≤ 13 := by have h1 := hpok.1; have h2 := hpok.len; have := Hk.out; omega
  have Hpok := Lib.hid hpok
  have Hmir : Hid (mirI p = mirL p) := by unfold Hid mirI; rw [if_pos ((patB_iff _).2 hpok)]
  clear hpok
  have tok : True := trivial
  go_wp2_with (first | (go_at_call 5; clear tok; refine (mirrorPattern_c p _ _ Ho.out.ints).mono ?_; rintro e w2 ⟨v2, rfl, ho2, hx2⟩; (rw [Hmir.out] at ho2; obtain ⟨A2, n2, q2, rfl⟩ := ho2.form; have Hm := Lib.hid ho2; have X2 : Hid (Ext w w2) := Ext.tr X1.out hx2; clear ho2)))
  have Hi2 := Lib.hid (Ho.out.ints.ext hx2)
  rcases pats_lineP Hp.out with ⟨q, es, E, h⟩ | ⟨f, h⟩
  · have H := Lib.hid h
    have hq := h.q1
    obtain ⟨n, hn⟩ : ∃ n, n = es.length := ⟨_, rfl⟩
    have hn1 := h.len
    rw [← hn, ← Hk.out] at hn1
    have hnq : n ≤ q := by have h1 := hn1.2; have h2 := Nat.mul_le_mul_left n hkk.1; omega
    have Hn := Lib.hid hn
    obtain ⟨eL, heL⟩ : ∃ eL, eL = esI es := ⟨_, rfl⟩
    have hel : eL.length = n := by rw [heL, hn]; exact esI_len es
    have hge : ∀ j, j < n → eL[j]? = some ((es.getD j 0 : Nat) : Int) := fun j hj => by rw [heL]; exact esI_getD (by omega)
    obtain ⟨EL, hEL⟩ : ∃ EL, EL = esI E := ⟨_, rfl⟩
    have hEl : EL.length = 8 := by rw [hEL, esI_len]; exact h.elen
    have hgE : ∀ j, j < 8 → EL[j]? = some ((E.getD j 0 : Nat) : Int) := fun j hj => by rw [hEL]; exact esI_getD (by rw [h.elen]; exact hj)
    have Hpe : Hid (esI (outc p).2.2 = eL) := by unfold Hid; rw [h.oc, heL]
    have Hen : Hid (entL p 8 = EL) := by unfold Hid; rw [h.ent, hEL]
    have Hel := Lib.hid hel
    have Hge := Lib.hid hge
    have HEl := Lib.hid hEl
    have HgE := Lib.hid hgE
    have hmi : (n : Int) * (k : Int) = (q : Int) := by rw [← Int.natCast_mul, hn1.2]
    have hwq : IntKind.i64.wrap (q : Int) = (q : Int) := IntWalk.i64_in _ (by omega)
    have hq0 : (0 : Int) < (q : Int) := by omega
    have hq1 : (1 : Int) ≤ (q : Int) := by omega
    have hn0 : ((n : Int) == 0) = false := by rw [beq_eq_false_iff_ne]; omega
    clear h hn heL hel hge hEL hEl hgE
    go_wp2_with (first | (go_at_call 6; refine (linePeriod_c p _ _ Hi2.out).mono ?_; rintro e w3 ⟨rfl, hx3⟩; rw [H.out.lp]) | (go_at_call 7; refine (periodEntries_c p _ _ (Hi2.out.ext hx3)).mono ?_; rintro e w4 ⟨v4, rfl, ho4, hx4⟩; (rw [Hpe.out] at ho4; obtain ⟨g4, c4, hv4, _, _⟩ := ho4.shape (by rw [Hel.out]; omega); rw [Hel.out] at hv4; subst hv4; have He4 := Lib.hid ho4; clear ho4)) | (go_at_call 8; refine (failTime_c p _ _ ((Hi2.out.ext hx3).ext hx4)).mono ?_; rintro e w5 ⟨rfl, hx5⟩; rw [H.out.ft]))
    have Hi5 := Lib.hid (((Hi2.out.ext hx3).ext hx4).ext hx5)
    have X5 : Hid (Ext w2 w5) := hx3.tr (hx4.tr hx5)
    have He5 := Lib.hid (He4.out.ext hx5)
    clear hx3 hx4 hx5 He4
    have tok : True := trivial
    go_wp2_with (first | (go_at_call 9; clear tok; refine (blockLength_c p _ _ Hi5.out).mono ?_; rintro e w6 ⟨rfl, hx6⟩; rw [H.out.bl]))
    have tok : True := trivial
    go_wp2_with (first | (go_at_call 10; clear tok; refine (canGoOn_c p _ _ (Hi5.out.ext hx6)).mono ?_; rintro e w7 ⟨b7, rfl, hb7, hx7⟩; (obtain rfl := hb7.2 H.out.on; clear hb7)))
    have Hi7 := Lib.hid ((Hi5.out.ext hx6).ext hx7)
    have X7 : Hid (Ext w2 w7) := X5.out.tr (hx6.tr hx7)
    have He7 := Lib.hid ((He5.out.ext hx6).ext hx7)
    have Hm7 := Lib.hid (Hm.out.ints.ext X7.out)
    clear hx6 hx7 He5 Hi5 X5
    have tok : True := trivial
    go_wp2_with (first | (go_at_call 11; refine (patternOk_c p _ _ Hi7.out).mono ?_; rintro e w1 ⟨b8, rfl, hb8, rfl⟩; (obtain rfl := hb8.2 Hpok.out; clear hb8)) | (go_at_call 10; clear tok; refine (canGoOn_c (mirL p) _ _ Hm7.out).mono ?_; rintro e w9 ⟨b9, rfl, hb9, hx9⟩; (obtain rfl := hb9.2 H.out.onm; clear hb9)))
    have tok : True := trivial
    go_wp2_with (first | (go_at_call 9; clear tok; refine (blockLength_c (mirL p) _ _ (Hm7.out.ext hx9)).mono ?_; rintro e w10 ⟨rfl, hx10⟩; rw [H.out.blm]))
    have Hi10 := Lib.hid ((Hi7.out.ext hx9).ext hx10)
    have He10 := Lib.hid ((He7.out.ext hx9).ext hx10)
    have X10 : Hid (Ext w2 w10) := X7.out.tr (hx9.tr hx10)
    clear hx9 hx10 He7 Hi7 X7 Hm7
    go_wp2_with (first | (go_at_call 12; refine (entriesOf_c p 8 _ _ Hi10.out).mono ?_; rintro e w11 ⟨v11, rfl, ho11, hx11⟩; (rw [H.out.entb]; rw [Hen.out] at ho11; obtain ⟨g11, c11, hv11, _, _⟩ := ho11.shape (by rw [HEl.out]; omega); rw [HEl.out] at hv11; subst hv11; have HE11 := Lib.hid ho11; clear ho11)))
    have Hi11 := Lib.hid (Hi10.out.ext hx11)
    have He11 := Lib.hid (He10.out.ext hx11)
    have X11 : Hid (Ext w2 w11) := X10.out.tr hx11
    clear hx11 X10 He10 Hi10
    go_loopw [120] (fun i wr => ∃ j : Nat, j ≤ 8 ∧ i = .int .i64 j ∧ Ext w11 wr) (fun i _ => 8 - (intOf i).toNat)
    case atStart => exact ⟨0, Nat.zero_le _, rfl, Below.refl _ _⟩
    case round =>
      obtain ⟨j, hj, rfl, hxx⟩ := hrel
      by_cases hj8 : j < 8
      · obtain ⟨z, hz⟩ : ∃ z, z = j % n := ⟨_, rfl⟩
        have hzn : z < n := by rw [hz]; exact Nat.mod_lt _ (by have := hn1.1; omega)
        obtain ⟨d, hd⟩ : ∃ d, d = j / n := ⟨_, rfl⟩
        have hdj : d ≤ j := by rw [hd]; exact Nat.div_le_self _ _
        have hmod : (j : Int) % (n : Int) = (z : Int) := by rw [hz, Int.natCast_emod]
        have hdiv : (j : Int) / (n : Int) = (d : Int) := by rw [hd, Int.natCast_ediv]
        have hE := H.out.eget j hj8
        rw [← Hn.out, ← hz, ← hd] at hE
        have hEl := H.out.ele (E.getD j 0) (by rw [List.getD_eq_getElem?_getD, List.getElem?_eq_getElem (by rw [H.out.elen]; exact hj8)]; simp)
        have hc1 := (HE11.out.ext hxx).cell (HgE.out j hj8)
        have hc2 := (He11.out.ext hxx).cell (Hge.out z hzn)
        obtain ⟨x, hx⟩ : ∃ x, x = E.getD j 0 := ⟨_, rfl⟩
        obtain ⟨y, hy⟩ : ∃ y, y = es.getD z 0 := ⟨_, rfl⟩
        obtain ⟨dq, hdq⟩ : ∃ dq, dq = d * q := ⟨_, rfl⟩
        rw [← hx] at hE hEl hc1
        rw [← hy] at hE hc2
        rw [← hdq] at hE
        have hdqi : (d : Int) * (q : Int) = (dq : Int) := by rw [hdq, Int.natCast_mul]
        have hsum : (y : Int) + (dq : Int) = (x : Int) := by omega
        have hwx : IntKind.i64.wrap (x : Int) = (x : Int) := IntWalk.i64_in _ (by omega)
        have hwd : IntKind.i64.wrap (dq : Int) = (dq : Int) := IntWalk.i64_in _ (by omega)
        have hji : (j : Int) < 8 := by omega
        have hzi : (z : Int) < (n : Int) := by omega
        have hni : (1 : Int) ≤ (n : Int) := by omega
        clear hz hd hx hy hdq hE
        go_wp2
        go_quiet (fail)
        go_wp2
        go_roundw
        case rel => first | exact ⟨j + 1, by omega, by go_num, ⟨hxx.os, hxx.tape, hxx.output, hxx.size, hxx.block⟩⟩ | ((repeat apply Exists.intro); exact ⟨⟨j + 1, by omega, by go_num, ⟨hxx.os, hxx.tape, hxx.output, hxx.size, hxx.block⟩⟩, rfl⟩)
        case measure => simp [intOf]; omega
      · obtain rfl : j = 8 := by omega
        have hq24 : (q : Int) ≤ 24 := by omega
        have hcov : cntC p (q : Int) = ((cv (maskN p) (maskN (mirL p)) q (q + 1) 0 0).length : Int) := by unfold cntC cvs; rw [if_pos ⟨(patB_iff _).2 Hpok.out, by omega, by omega⟩, Int.toNat_natCast]
        obtain ⟨cN, hcN⟩ : ∃ cN, cN = (cv (maskN p) (maskN (mirL p)) q (q + 1) 0 0).length := ⟨_, rfl⟩
        have hc1 := H.out.cov
        rw [← hcN] at hcov hc1
        have Hcov := Lib.hid hcov
        have hcn : ¬ (cN : Int) < 1 := by omega
        have Hlt := Lib.hid (lt_t H.out.oc (by omega))
        have HiW := Lib.hid (Hi11.out.ext hxx)
        have XW : Hid (Ext w wr) := X2.out.tr (X11.out.tr hxx)
        clear hcov hcN hc1 hxx
        go_wp2_with (first | (go_at_call 13; refine (lineTiling_c p _ _ HiW.out).mono ?_; rintro e w12 ⟨v12, u12, rfl, ho12, hp12, ha12, hx12⟩; (rw [Hlt.out.1, Hlt.out.2.1]; rw [Hlt.out.2.2.1] at ho12; rw [Hlt.out.2.2.2] at hp12; obtain ⟨Av, nv, cv, rfl⟩ := ho12.form; obtain ⟨Au, nu, cu, rfl⟩ := hp12.form; have R1 := Lib.hid ((RVar.new (T := 31) w12 (q : Int) (.slice Av nv cv)).ext (one_box _ (.cells #[.int .i64 (q : Int), .slice Au nu cu] 31))); have R2 : Hid (RVar ((w12.alloc (.cells #[.int .i64 (q : Int), .slice Av nv cv] 31)).alloc (.cells #[.int .i64 (q : Int), .slice Au nu cu] 31)) (w12.heap.size + 1) (q : Int) (.slice Au nu cu)) := (by simpa only [Hid, World.size_alloc] using RVar.new (T := 31) (w12.alloc (.cells #[.int .i64 (q : Int), .slice Av nv cv] 31)) (q : Int) (.slice Au nu cu)); have hd1 := R1.out.c0; have hd2 := R1.out.c1; have hd3 := R2.out.c0; have hd4 := R2.out.c1; have Hbx := Lib.hid (two_boxes w12 (.cells #[.int .i64 (q : Int), .slice Av nv cv] 31) (.cells #[.int .i64 (q : Int), .slice Au nu cu] 31)); have Hlv := Lib.hid (ho12.ints.ext Hbx.out); have Hlu := Lib.hid (hp12.ints.ext Hbx.out); have Hi12 := Lib.hid ((HiW.out.ext hx12).ext Hbx.out); have X12 : Hid (Ext w _) := (XW.out.tr (hx12.tr Hbx.out)); clear ho12 hp12 hx12)) | (go_at_call 14; refine (isTiling_t q (rhL q (remL q p)) (rhL q (esI es)) _ _ _ Hlv.out Hlu.out H.out.til).mono ?_; rintro e w13 ⟨rfl, hx13⟩; (have hd5 := (R1.out.ext hx13).c0)) | (go_at_call 15; refine (countCovers_c p (q : Int) _ _ (Hi12.out.ext hx13) (by first | assumption | (unfold I64; omega)) (TabAt.ext HT.out (X12.out.tr hx13))).mono ?_; rintro e w14 ⟨rfl, hx14⟩; rw [Hcov.out]))
        have X14 : Hid (Ext w w14) := X12.out.tr (hx13.tr hx14)
        have tok : True := trivial
        go_wp2_with (first | (go_at_call 6; clear tok; refine (linePeriod_c [0, 2] _ _ (lit1 _)).mono ?_; rintro e w15 ⟨rfl, hx15⟩; rw [line_c1]))
        have tok : True := trivial
        go_wp2_with (first | (go_at_call 8; clear tok; refine (failTime_c [0, 1, 3] _ _ (lit2 _)).mono ?_; rintro e w16 ⟨rfl, hx16⟩; rw [line_c2]))
        have tok : True := trivial
        go_wp2_with (first | (go_at_call 9; clear tok; refine (blockLength_c [0, 1, 4, 5] _ _ (lit3 _)).mono ?_; rintro e w17 ⟨rfl, hx17⟩; rw [line_c3]))
        go_ret
        exact ⟨rfl, X14.out.tr ((one_box _ _).tr (hx15.tr ((one_box _ _).tr (hx16.tr ((one_box _ _).tr hx17)))))⟩
  · have H := Lib.hid h
    have hf0 : ((f : Int) == -1) = false := by rw [beq_eq_false_iff_ne]; omega
    have Hlt := Lib.hid (lt_f (l := p) (by unfold ltOk; rw [h.on]; simp))
    have Hon : Hid (¬ (outc p).1 = true) := by unfold Hid; rw [h.on]; simp
    have Honm : Hid (¬ (outc (mirL p)).1 = true) := by unfold Hid; rw [h.onm]; simp
    obtain ⟨B, hB⟩ : ∃ B, B = entB p 8 := ⟨_, rfl⟩
    have HB := Lib.hid hB
    clear h hB
    go_wp2_with (first | (go_at_call 6; refine (linePeriod_c p _ _ Hi2.out).mono ?_; rintro e w3 ⟨rfl, hx3⟩; rw [H.out.lp]) | (go_at_call 7; refine (periodEntries_c p _ _ (Hi2.out.ext hx3)).mono ?_; rintro e w4 ⟨v4, rfl, ho4, hx4⟩; (obtain ⟨A4, n4, c4, rfl⟩ := ho4.form; clear ho4)) | (go_at_call 8; refine (failTime_c p _ _ ((Hi2.out.ext hx3).ext hx4)).mono ?_; rintro e w5 ⟨rfl, hx5⟩; rw [H.out.ft]))
    have Hi5 := Lib.hid (((Hi2.out.ext hx3).ext hx4).ext hx5)
    have X5 : Hid (Ext w2 w5) := hx3.tr (hx4.tr hx5)
    clear hx3 hx4 hx5
    have tok : True := trivial
    go_wp2_with (first | (go_at_call 9; clear tok; refine (blockLength_c p _ _ Hi5.out).mono ?_; rintro e w6 ⟨rfl, hx6⟩; rw [H.out.bl]))
    have tok : True := trivial
    go_wp2_with (first | (go_at_call 10; clear tok; refine (canGoOn_c p _ _ (Hi5.out.ext hx6)).mono ?_; rintro e w7 ⟨b7, rfl, hb7, hx7⟩; (obtain rfl := bool_f hb7 Hon.out; clear hb7)))
    have Hi7 := Lib.hid ((Hi5.out.ext hx6).ext hx7)
    have X7 : Hid (Ext w2 w7) := X5.out.tr (hx6.tr hx7)
    have Hm7 := Lib.hid (Hm.out.ints.ext X7.out)
    clear hx6 hx7 Hi5 X5
    have tok : True := trivial
    go_wp2_with (first | (go_at_call 11; refine (patternOk_c p _ _ Hi7.out).mono ?_; rintro e w1 ⟨b8, rfl, hb8, rfl⟩; (obtain rfl := hb8.2 Hpok.out; clear hb8)) | (go_at_call 10; clear tok; refine (canGoOn_c (mirL p) _ _ Hm7.out).mono ?_; rintro e w9 ⟨b9, rfl, hb9, hx9⟩; (obtain rfl := bool_f hb9 Honm.out; clear hb9)))
    have Hi9 := Lib.hid (Hi7.out.ext hx9)
    have X9 : Hid (Ext w2 w9) := X7.out.tr hx9
    clear hx9 Hi7 X7 Hm7
    cases B
    all_goals
      go_wp2_with (first | (go_at_call 12; refine (entriesOf_c p 8 _ _ Hi9.out).mono ?_; rintro e w11 ⟨v11, rfl, ho11, hx11⟩; (rw [← HB.out]; obtain ⟨A11, n11, c11, rfl⟩ := ho11.form; clear ho11)) | (go_at_call 13; refine (lineTiling_c p _ _ (Hi9.out.ext hx11)).mono ?_; rintro e w12 ⟨v12, u12, rfl, ho12, hp12, ha12, hx12⟩; (rw [Hlt.out.1, Hlt.out.2.1]; obtain ⟨Av, nv, cv, rfl⟩ := ho12.form; obtain ⟨Au, nu, cu, rfl⟩ := hp12.form; have Hbx := Lib.hid (two_boxes w12 (.cells #[.int .i64 0, .slice Av nv cv] 31) (.cells #[.int .i64 0, .slice Au nu cu] 31)); have X12 : Hid (Ext w _) := (X2.out.tr (X9.out.tr (hx11.tr (hx12.tr Hbx.out)))); clear ho12 hp12 hx12)))
      have tok : True := trivial
      go_wp2_with (first | (go_at_call 6; clear tok; refine (linePeriod_c [0, 2] _ _ (lit1b _ _ _)).mono ?_; rintro e w15 ⟨rfl, hx15⟩; rw [line_c1]))
      have tok : True := trivial
      go_wp2_with (first | (go_at_call 8; clear tok; refine (failTime_c [0, 1, 3] _ _ (lit2 _)).mono ?_; rintro e w16 ⟨rfl, hx16⟩; rw [line_c2]))
      have tok : True := trivial
      go_wp2_with (first | (go_at_call 9; clear tok; refine (blockLength_c [0, 1, 4, 5] _ _ (lit3 _)).mono ?_; rintro e w17 ⟨rfl, hx17⟩; rw [line_c3]))
      go_ret
      exact ⟨rfl, X12.out.tr ((one_box _ _).tr (hx15.tr ((one_box _ _).tr (hx16.tr ((one_box _ _).tr hx17)))))⟩

namespace fnLineGlue
set_option maxRecDepth 100000 in
theorem lifted (os : Os) (started : os.Started) (H : Type) (enc : TypeId × Value → H) :
    ReturnsInHanded {} Tryd.checked os 3 .any (fun w args => (Rows.fnLineSpec.pre enc Tryd.prog Tryd.f3 [] false w args ∧ laidMetH Tryd.prog laidD w) ∧ sizedMet enc Tryd.prog Tryd.f3 (OpenSpec.ofChange Rows.fnLineSpec) false w args) (Rows.fnLineSpec.post enc Tryd.prog Tryd.f3 false true false false) := by
  refine returnsInHanded_of_change_and (C := Tryd.checked) (X := fun w _ => laidMetH Tryd.prog laidD w) (fun _ _ _ hh h => h.of_heap hh) own started (by kernel_rfl) Tryd.func3
    (ChangeSpec.witness_shaped (enc := enc) (C := Tryd.checked) (os := os) (X := fun w _ => laidMetH Tryd.prog laidD w) false (World.doorLaid Tryd.prog 400 os) #[.slice none 0 0] 8 rfl (World.shaped_of_RefB (by kernel_rfl) (by kernel_rfl)) (by kernel_rfl) (by kernel_rfl) (by kernel_rfl) (door_met os _)) ?_
  intro W base args ds gs before hval0 hW _ _ hL _
  have hval : ∀ (j : Nat) t v, Tryd.f3.params[j]? = some t → args[j]? = some v → Value.okWide Tryd.prog W .any base t v := hval0
  have hW' := hW
  obtain ⟨p, q, hA0, hV, rfl, hfz, hnd⟩ := hW
  have hA : DataW.TrodAll enc Tryd.prog W 0 (fun _ => true) true Tryd.f3.params.toList args.toList ds p := hA0
  rw [Tryd.params3] at hA hval
  obtain ⟨v0, vs0, d0, ds0, p0, q0, hargs, rfl, rfl, h0, r0⟩ := trodAll_cons hA
  obtain ⟨rfl, rfl, rfl⟩ := trodAll_nil r0
  obtain rfl : args = #[v0] := by cases args; simp_all
  obtain ⟨rfl, rfl⟩ := trodVars_none hV
  have k0 := h0
  have lt0 : ∀ x ∈ p0, x.block < W.heap.size := by obtain ⟨m, hm⟩ := k0; exact DataW.trod_lt m _ _ _ hm
  obtain ⟨l0, w0⟩ := bytes_in (hval 0 22 v0 rfl rfl) h0
  clear hA0 hval0
  refine (lawLine_c l0 v0 W w0 (tab_of hL)).mono fun e W' ⟨he, bel⟩ => ?_
  subst he
  exact ⟨_, rfl, _, _, _, [], _, [], hW', trodAll_mk1 (shut_bool Tryd.underlying4 _), (trodAll_cons_mk (Below.trod laidOut (by kernel_rfl) (of_decide_eq_true (by kernel_rfl)) k0 bel lt0) trodAll_mk0), rfl, bel.frame _, fun h => by cases h⟩
theorem over : Rows.fnLineRow.holds Tryd.pinned (OpenSpec.ofChange Rows.fnLineSpec) :=
  OpenClaim.holds_of_wide 3 Tryd.f3 rfl rfl rfl rfl rfl rfl rfl ⟨rfl, rfl, rfl, rfl, rfl⟩ rfl rfl rfl rfl rfl (by kernel_rfl) Tryd.func3 (by kernel_rfl)
    (of_decide_eq_true (by kernel_rfl)) (by unfold Func.isWrapper; first | (rw [if_pos (by decide +kernel)]; kernel_rfl) | (rw [if_neg (by decide +kernel)]; exact ⟨rfl, rfl⟩))
    (fun os started H enc _ => lifted os started H enc)
end fnLineGlue
theorem fnLine_row : Rows.FnLineSaid := fnLineGlue.over
/-- THE STATEMENT: the tied card. -/
theorem fnLine_holds : Rows.FnLineCardSaid :=
  Claim7.holds_tied_plain_at .later [] [.data, .data] true (true, "5766f1bcd8b41d69e295a9159cc6c7243b68d64f6c045affb582c98e0173b379") false
    fnLine_row (fun _ h => by cases h) (by kernel_rfl) (fun _ h => by cases h) fnLine_row_tie rfl ⟨rfl, rfl⟩ (by kernel_rfl) rfl
    (fun f fn hf hfn => by
      obtain rfl : f = 3 := Option.some.inj ((show Tryd.prog.funcNamed "loop.example/g03204/laws.FnLine" = some 3 by kernel_rfl).symm.trans hf) |>.symm
      obtain rfl : fn = Tryd.f3 := (Option.some.inj (Tryd.func3.symm.trans hfn)).symm
      exact ⟨by kernel_rfl, fun j t ht => by
        rw [Tryd.params3] at ht
        have hm : t ∈ [22] := by simpa using Array.mem_of_getElem? ht
        have hall : ([22].all fun u => !Tryd.prog.wantsStandIn u) = true := by kernel_rfl
        exact (show Tryd.prog.wantsStandIn t = false by simpa using List.all_eq_true.1 hall t hm)⟩)
    (by kernel_rfl)
#print axioms fnLine_holds
end Go.Proofs.YtkdodbhkobefiaaDoor
