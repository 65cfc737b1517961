/- For every row of bytes the law FnCanons returns true: in a tight canon one voice plays on each pulse, whichever rhythm is inside. Conditions: none beyond the row's own; the tables of unicode/utf8 are tied to the program's text. -/
import Derived.Test.YtjecdmlojgmbeaaGreatDoorPureJ
import Derived.Test.YtjecdmlojgmbeaaGreatDoorFmtl
import Derived.Test.YtjecdmlojgmbeaaGreatDoorFmk
import Derived.Test.YtjecdmlojgmbeaaGreatDoorFhas
import Derived.Test.YtjecdmlojgmbeaaGreatDoorFeq
import Derived.Test.YtjecdmlojgmbeaaGreatDoorFrd
import Derived.Test.YtjecdmlojgmbeaaGreatDoorGlueB
import Derived.Test.YtjecdmlojgmbeaaGreatDoorGlueU
import Derived.Deep.DeepCutAuto
namespace Go.Proofs.YtjecdmlojgmbeaaGreatDoor
open Go.ChangeShapes Go.WideShapes Go.ChangeAt Go.RowKit
/-- the law's memory: the two rhythms and the canon of them in their variables -/
structure MS (w wr : World) (n : Nat) (va vb : Value) (a b : List Int) (b3 b4 b6 : Nat) : Prop where
  r3 : RVar wr b3 n va
  r4 : RVar wr b4 n vb
  c6 : CVar wr b6 n va n vb
  oa : Ints wr va a
  ob : Ints wr vb b
  x : Ext w wr
theorem MS.ext {w wr w' : World} {n : Nat} {va vb : Value} {a b : List Int} {b3 b4 b6 : Nat} (h : MS w wr n va vb a b b3 b4 b6) (hx : Ext wr w') : MS w w' n va vb a b b3 b4 b6 :=
  ⟨h.r3.ext hx, h.r4.ext hx, h.c6.ext hx, h.oa.ext hx, h.ob.ext hx, h.x.tr hx⟩
/-- a canon in a variable -/
structure CS (wr : World) (n : Nat) (va vb : Value) (a b : List Int) (b6 : Nat) : Prop where
  c6 : CVar wr b6 n va n vb
  oa : Ints wr va a
  ob : Ints wr vb b
theorem CS.ext {wr w' : World} {n : Nat} {va vb : Value} {a b : List Int} {b6 : Nat} (h : CS wr n va vb a b b6) (hx : Ext wr w') : CS w' n va vb a b b6 :=
  ⟨h.c6.ext hx, h.oa.ext hx, h.ob.ext hx⟩
theorem MS.new {w w1 : World} {n : Nat} {va vb : Value} {a b : List Int} (oa : Ints w1 va a) (ob : Ints w1 vb b) (x : Ext w w1) :
    MS w (((w1.alloc (.cells #[.int .i64 (n : Int), va] 25)).alloc (.cells #[.int .i64 (n : Int), vb] 25)).alloc (.cells #[.int .i64 (n : Int), va, .int .i64 (n : Int), vb] 29)) n va vb a b w1.heap.size (w1.heap.size + 1) (w1.heap.size + 1 + 1) := by
  have x1 := one_box w1 (.cells #[.int .i64 (n : Int), va] 25)
  have x2 := one_box (w1.alloc (.cells #[.int .i64 (n : Int), va] 25)) (.cells #[.int .i64 (n : Int), vb] 25)
  have x3 := one_box ((w1.alloc (.cells #[.int .i64 (n : Int), va] 25)).alloc (.cells #[.int .i64 (n : Int), vb] 25)) (.cells #[.int .i64 (n : Int), va, .int .i64 (n : Int), vb] 29)
  have h1 := RVar.new (T := 25) w1 n va
  have h2 := RVar.new (T := 25) (w1.alloc (.cells #[.int .i64 (n : Int), va] 25)) n vb
  have h3 := CVar.new (T := 29) ((w1.alloc (.cells #[.int .i64 (n : Int), va] 25)).alloc (.cells #[.int .i64 (n : Int), vb] 25)) n va n vb
  simp only [World.size_alloc] at h2 h3
  have xx := x1.tr (x2.tr x3)
  exact ⟨h1.ext (x2.tr x3), h2.ext x3, h3, oa.ext xx, ob.ext xx, x.tr xx⟩
theorem CS.new {w1 : World} {n : Nat} {va vb : Value} {a b : List Int} (oa : Ints w1 va a) (ob : Ints w1 vb b) : CS (w1.alloc (.cells #[.int .i64 (n : Int), va, .int .i64 (n : Int), vb] 29)) n va vb a b w1.heap.size :=
  ⟨CVar.new (T := 29) w1 n va n vb, oa.ext (one_box _ _), ob.ext (one_box _ _)⟩
theorem cnt_step {n : Nat} {l r : List Int} {j : Nat} : cntM2 (lnUp n l r (j + 1)) = cntM2 (lnUp n l r j) + if lnC (vsL n l r j) = -2 then 1 else 0 := by
  unfold cntM2
  rw [lnUp_succ, List.filter_append, List.length_append]
  split <;> rename_i hc <;> simp [hc]
attribute [local irreducible] rdcB rdcN rdcI rcE lnL vsL fcL rcB rcN rcI rcO xchN xchI xchO tigB canB cluI vrN vrL vrB
set_option maxRecDepth 100000 in
set_option maxHeartbeats 8000000 in
theorem lawCanons_c (l : List Int) (v : Value) (w : World) (hv : Byts w v l) : Calls Tryz.prog 3 #[v] w fun e w' => e = .returned (.bool true) ∧ Ext w w' := by
  obtain ⟨A, c0, hve⟩ := hv.form0
  have hlm : l.length ≤ 9223372036854775807 := by obtain ⟨_, c', _, h1, h2, _⟩ := hv; unfold maxLen at h2; omega
  obtain ⟨m, hm⟩ : ∃ m, m = l.length := ⟨_, rfl⟩
  rw [← hm] at hve hlm
  subst hve
  have Hv := Lib.hid hv
  clear hv hm
  by_cases hle : m ≤ 1048576
  rotate_left
  · have hle2 : (1048576 : Int) < (m : Int) := by omega
    go_enter Tryz.func3, Tryz.ntmps3
    go_wp2
    go_ret
    exact ⟨rfl, Below.refl _ _⟩
  have hle2 : ¬ (1048576 : Int) < (m : Int) := by omega
  go_enter Tryz.func3, Tryz.ntmps3
  go_wp2_with (first | (go_at_call 4; refine (makeTile_c l 0 _ _ Hv.out (by omega)).mono ?_; rintro e w1 ⟨nw1, aw1, cw1, uw1, tw1, hnw1, htw1, h0w1, rfl, how1, hpw1, hxw1⟩; (obtain ⟨n, hnn⟩ : ∃ n, n = nw1 := ⟨_, rfl⟩; obtain ⟨a, haa⟩ : ∃ r, r = aw1 := ⟨_, rfl⟩; obtain ⟨b, hbb⟩ : ∃ r, r = cw1 := ⟨_, rfl⟩; subst hnn; subst haa; subst hbb; have Ht := Lib.hid htw1; have H0 := Lib.hid h0w1; have hn1 : 1 ≤ n ∧ n ≤ 12 := (by have := htw1.okl.1; omega); obtain ⟨A1, c1, hv1, _, _⟩ := how1.slice; obtain ⟨ka, hka⟩ : ∃ k, k = a.length := ⟨_, rfl⟩; rw [← hka] at hv1; subst hv1; obtain ⟨A2, c2, hv2, _, _⟩ := hpw1.slice; obtain ⟨kb, hkb⟩ : ∃ k, k = b.length := ⟨_, rfl⟩; rw [← hkb] at hv2; subst hv2; have Hka := Lib.hid hka; have Hkb := Lib.hid hkb; have hkb1 : 1 ≤ kb ∧ kb ≤ 12 := (by have h1 := (List.getElem?_eq_some_iff.1 h0w1).1; have h2 := inc_len htw1.okr.2.1 htw1.okr.2.2; omega); have Oa := Lib.hid how1.ints; have Ob := Lib.hid hpw1.ints; have X1 := Lib.hid hxw1; clear htw1 h0w1 how1 hpw1 hxw1 hka hkb hnw1)))
  obtain ⟨W1, hW1⟩ : ∃ W, W = (((w1.alloc (.cells #[.int .i64 (n : Int), .slice A1 ka c1] 25)).alloc (.cells #[.int .i64 (n : Int), .slice A2 kb c2] 25)).alloc (.cells #[.int .i64 (n : Int), .slice A1 ka c1, .int .i64 (n : Int), .slice A2 kb c2] 29)) := ⟨_, rfl⟩
  obtain ⟨b6, hb6⟩ : ∃ b, b = w1.heap.size + 1 + 1 := ⟨_, rfl⟩
  obtain ⟨b4, hb4⟩ : ∃ b, b = w1.heap.size + 1 := ⟨_, rfl⟩
  obtain ⟨b3, hb3⟩ : ∃ b, b = w1.heap.size := ⟨_, rfl⟩
  have M1 : Hid (MS w W1 n (.slice A1 ka c1) (.slice A2 kb c2) a b b3 b4 b6) := by rw [hW1, hb6, hb4, hb3]; exact MS.new Oa.out Ob.out X1.out
  rw [← hW1, ← hb6, ← hb4, ← hb3]
  clear hW1 hb6 hb4 hb3 Oa Ob X1
  have hc0 := M1.out.c6.c0
  have hc1 := M1.out.c6.c1
  have hc2 := M1.out.c6.c2
  have hc3 := M1.out.c6.c3
  have HE : Hid (canB n n a b = true ∧ xchN n n a b = n ∧ xchI n n a b = b ∧ xchO n n a b = a) := by
    have h := xch_t (til_can Ht.out)
    rw [rot_zeroJ Ht.out.okl, rot_zeroJ Ht.out.okr] at h
    exact h
  go_wp2_with (first | (go_at_call 5; refine (exchangeCanon_c (n : Int) (n : Int) a b _ _ _ M1.out.oa M1.out.ob).mono ?_; rintro e w2 ⟨v2, u2, rfl, ho2, hp2, ha2, hx2⟩; (rw [HE.out.1, HE.out.2.1]; rw [HE.out.2.2.1] at ho2; rw [HE.out.2.2.2] at hp2; obtain ⟨A3, k3, c3, rfl⟩ := ho2.form; obtain ⟨A4, k4, c4, rfl⟩ := hp2.form; clear hc0 hc1 hc2 hc3)))
  obtain ⟨W2, hW2⟩ : ∃ W, W = w2.alloc (.cells #[.int .i64 (n : Int), .slice A3 k3 c3, .int .i64 (n : Int), .slice A4 k4 c4] 29) := ⟨_, rfl⟩
  obtain ⟨b7, hb7⟩ : ∃ b, b = w2.heap.size := ⟨_, rfl⟩
  have C2 : Hid (CS W2 n (.slice A3 k3 c3) (.slice A4 k4 c4) b a b7) := by rw [hW2, hb7]; exact CS.new ho2.ints hp2.ints
  have M2 : Hid (MS w W2 n (.slice A1 ka c1) (.slice A2 kb c2) a b b3 b4 b6) := by rw [hW2]; exact M1.out.ext (hx2.tr (one_box _ _))
  rw [← hW2, ← hb7]
  clear hW2 hb7 ho2 hp2 ha2 hx2 M1 HE
  go_cut [9, 10] (fun s9 s10 wx => ∃ (b9 : Nat) (u t : Value) (a' b' : List Int), s9 = .pointer (some ⟨b9, 0, none⟩) ∧ s10 = .bool true ∧ Hid (TilOk n a' b' ∧ CS wx n u t a' b' b9 ∧ Ext W2 wx))
  case first =>
    as_aux_lemma =>
      have CV := Lib.hid M2.out.c6
      have HV2 := Lib.hid (Hv.out.ext M2.out.x)
      have OA := Lib.hid M2.out.oa
      have OB := Lib.hid M2.out.ob
      have hc0 := CV.out.c0
      have hc1 := CV.out.c1
      have hc2 := CV.out.c2
      have hc3 := CV.out.c3
      have tokA : True := trivial
      have tokB : True := trivial
      clear C2 M2 H0 Hka Hkb
      go_region_held3 (fun w' => w'.cell? ⟨b6, 0, none⟩ = some (.int .i64 n) ∧ w'.cell? ⟨b6, 1, none⟩ = some (.slice A1 ka c1) ∧ w'.cell? ⟨b6, 2, none⟩ = some (.int .i64 n) ∧ w'.cell? ⟨b6, 3, none⟩ = some (.slice A2 kb c2))
        (first
          | (refine ⟨(CV.out.ext ?_).c0, (CV.out.ext ?_).c1, (CV.out.ext ?_).c2, (CV.out.ext ?_).c3⟩ <;> (repeat (first | exact E7.out | apply Ext.dr | apply Ext.al | (refine Ext.st ?_ (by first | exact Nat.le_refl _ | exact hz5 | exact hz6 | exact hz7 | fail)))); done)
          | (refine ⟨(CV.out.ext ?_).c0, (CV.out.ext ?_).c1, (CV.out.ext ?_).c2, (CV.out.ext ?_).c3⟩ <;> (repeat (first | exact E6.out | apply Ext.dr | apply Ext.al)); done)
          | (refine ⟨(CV.out.ext ?_).c0, (CV.out.ext ?_).c1, (CV.out.ext ?_).c2, (CV.out.ext ?_).c3⟩ <;> (repeat (first | exact E5.out | apply Ext.dr | apply Ext.al)); done)
          | (refine ⟨(CV.out.ext ?_).c0, (CV.out.ext ?_).c1, (CV.out.ext ?_).c2, (CV.out.ext ?_).c3⟩ <;> (repeat (first | exact Below.refl _ _ | exact Ext.dr0 _ | apply Ext.dr | apply Ext.al)); done)
          | (go_keep; done))
        (first
          | (go_at_call 7; clear tokA; refine (makeNum_c l 40 _ _ (HV2.out.ext (by (repeat (first | exact Below.refl _ _ | exact Ext.dr0 _ | apply Ext.dr | apply Ext.al)); done)) (by omega)).mono ?_; rintro e w5 ⟨x, hlx, rfl, hx5⟩; have E5 : Hid (Ext W2 w5) := Ext.tr (by (repeat (first | exact Below.refl _ _ | exact Ext.dr0 _ | apply Ext.dr | apply Ext.al)); done) hx5; have hz5 := E5.out.size; obtain ⟨q5, hq5⟩ : ∃ q, q = x % 20 := ⟨_, rfl⟩; have hr5 : (x : Int) % 20 = (q5 : Int) := (by omega); have ht5 : (x : Int).tmod 20 = (q5 : Int) := (by rw [Int.tmod_eq_emod_of_nonneg (by omega)]; exact hr5); have hl5 : q5 < 20 := (by omega); have hw5 : IntKind.i64.wrap (q5 : Int) = (q5 : Int) := IntWalk.i64_in _ (by omega); clear hq5)
          | (go_at_call 7; clear tokB; refine (makeNum_c l 42 _ _ (HV2.out.ext (by (repeat (first | exact E5.out | apply Ext.dr | apply Ext.al)); done)) (by omega)).mono ?_; rintro e w6 ⟨y, hly, rfl, hx6⟩; have E6 : Hid (Ext W2 w6) := Ext.tr (by (repeat (first | exact E5.out | apply Ext.dr | apply Ext.al)); done) hx6; have hz6 := E6.out.size; obtain ⟨q6, hq6⟩ : ∃ q, q = y % 20 := ⟨_, rfl⟩; have hr6 : (y : Int) % 20 = (q6 : Int) := (by omega); have ht6 : (y : Int).tmod 20 = (q6 : Int) := (by rw [Int.tmod_eq_emod_of_nonneg (by omega)]; exact hr6); have hl6 : q6 < 20 := (by omega); have hw6 : IntKind.i64.wrap (q6 : Int) = (q6 : Int) := IntWalk.i64_in _ (by omega); have hn6 : IntKind.i64.wrap (-(q6 : Int)) = -(q6 : Int) := IntWalk.i64_in _ (by omega); clear hq6)
          | (go_at_call 6; refine (rotateCanon_c (n : Int) (n : Int) a b (q5 : Int) (-(q6 : Int)) _ _ _ (OA.out.ext (by (repeat (first | exact E6.out | apply Ext.dr | apply Ext.al)); done)) (OB.out.ext (by (repeat (first | exact E6.out | apply Ext.dr | apply Ext.al)); done))).mono ?_; rintro e w7 ⟨v7, u7, rfl, ho7, hp7, ha7, hx7⟩; have E7 : Hid (Ext W2 w7) := Ext.tr (by (repeat (first | exact E6.out | apply Ext.dr | apply Ext.al)); done) hx7; have hz7 := E7.out.size; have HR := rc_t (n := n) (m := (n : Int)) (i := (q5 : Int)) (o := -(q6 : Int)) (l := a) (r := b) ⟨til_can Ht.out, by omega, by omega⟩; rw [HR.1, HR.2.1]; rw [HR.2.2.1] at ho7; rw [HR.2.2.2] at hp7; clear HR; obtain ⟨A7, k7, c7, rfl⟩ := ho7.form; obtain ⟨A8, k8, c8, rfl⟩ := hp7.form; (first | (have Nv : Hid (CVar w7 w6.heap.size 0 (.slice none 0 0) 0 (.slice none 0 0)) := CVar.ext (CVar.new (T := 29) w6 0 (.slice none 0 0) 0 (.slice none 0 0)) hx7; have hnb := Lib.hid (CVar.lt (CVar.new (T := 29) w6 0 (.slice none 0 0) 0 (.slice none 0 0)))) | (have Nv : Hid (CVar w7 w5.heap.size 0 (.slice none 0 0) 0 (.slice none 0 0)) := CVar.ext (CVar.ext (CVar.new (T := 29) w5 0 (.slice none 0 0) 0 (.slice none 0 0)) hx6) hx7; have hnb := Lib.hid (CVar.lt (CVar.ext (CVar.new (T := 29) w5 0 (.slice none 0 0) 0 (.slice none 0 0)) hx6))) | (have Nv : Hid (CVar w7 W2.heap.size 0 (.slice none 0 0) 0 (.slice none 0 0)) := CVar.ext (CVar.ext (CVar.ext (CVar.new (T := 29) W2 0 (.slice none 0 0) 0 (.slice none 0 0)) hx5) hx6) hx7; have hnb := Lib.hid (CVar.lt (CVar.ext (CVar.ext (CVar.new (T := 29) W2 0 (.slice none 0 0) 0 (.slice none 0 0)) hx5) hx6))) | (have Nv : Hid (CVar w7 W2.heap.size 0 (.slice none 0 0) 0 (.slice none 0 0)) := CVar.ext (CVar.ext (CVar.extD (CVar.new (T := 29) W2 0 (.slice none 0 0) 0 (.slice none 0 0)) hx5) hx6) hx7; have hnb := Lib.hid (CVar.lt (CVar.ext (CVar.extD (CVar.new (T := 29) W2 0 (.slice none 0 0) 0 (.slice none 0 0)) hx5) hx6))) | (have Nv : True := trivial)); (try (have d0 := Nv.out.c0; have p0 := Nv.out.f 0; have d1 := (Nv.out.set0 (k := (n : Int))).c1; have p1 := (Nv.out.set0 (k := (n : Int))).f 1; have d2 := ((Nv.out.set0 (k := (n : Int))).set1 (x := (.slice A7 k7 c7))).c2; have p2 := ((Nv.out.set0 (k := (n : Int))).set1 (x := (.slice A7 k7 c7))).f 2; have d3 := (((Nv.out.set0 (k := (n : Int))).set1 (x := (.slice A7 k7 c7))).set2 (k := (n : Int))).c3; have p3 := (((Nv.out.set0 (k := (n : Int))).set1 (x := (.slice A7 k7 c7))).set2 (k := (n : Int))).f 3))))
      all_goals
        go_wp2_with fail
        go_meet
        case rel =>
          refine ⟨_, .slice A7 k7 c7, .slice A8 k8 c8, rotL n a q5, rotL n b (-(q6 : Int)), rfl, rfl, ?_⟩
          unfold Hid
          refine ⟨til_rot Ht.out _ _, ?_, ?_⟩
          · first
              | exact CS.new ho7.ints hp7.ints
              | exact ⟨Nv.out.set0.set1.set2.set3, ((((ho7.other hnb.out).other hnb.out).other hnb.out).other hnb.out).ints, ((((hp7.other hnb.out).other hnb.out).other hnb.out).other hnb.out).ints⟩
          · first
              | exact E7.out.al
              | exact (((E7.out.st (by first | exact Nat.le_refl _ | exact hz5 | exact hz6)).st (by first | exact Nat.le_refl _ | exact hz5 | exact hz6)).st (by first | exact Nat.le_refl _ | exact hz5 | exact hz6)).st (by first | exact Nat.le_refl _ | exact hz5 | exact hz6)
  case rest =>
    obtain ⟨b9, u9, t9, ay, yb, rfl, rfl, H9⟩ := hcut
    obtain ⟨A9, c9, hu9, _, _⟩ := H9.out.2.1.oa.form0
    obtain ⟨B9, d9, ht9, _, _⟩ := H9.out.2.1.ob.form0
    obtain ⟨k9, hk9⟩ : ∃ k, k = ay.length := ⟨_, rfl⟩
    obtain ⟨z9, hz9⟩ : ∃ k, k = yb.length := ⟨_, rfl⟩
    rw [← hk9] at hu9
    rw [← hz9] at ht9
    subst hu9
    subst ht9
    have M3 := Lib.hid (M2.out.ext H9.out.2.2)
    have P3 := Lib.hid (C2.out.ext H9.out.2.2)
    have Q3 := Lib.hid H9.out.2.1
    have HtY := Lib.hid H9.out.1
    have HtX := Lib.hid (til_swap Ht.out)
    have Hcan := Lib.hid (til_can Ht.out)
    have T1 := Lib.hid (til_tig Ht.out)
    have T2 := Lib.hid (til_tig HtX.out)
    have T3 := Lib.hid (til_tig HtY.out)
    have Hclu := Lib.hid (clu_0 Ht.out)
    clear C2 M2 H9 hk9 hz9
    have hc0 := M3.out.c6.c0
    have hc1 := M3.out.c6.c1
    have hc2 := M3.out.c6.c2
    have hc3 := M3.out.c6.c3
    have tokA : True := trivial
    have tokB : True := trivial
    go_wp2_with (first | (go_at_call 8; refine (lineOf_c (n : Int) (n : Int) a b _ _ _ M3.out.oa M3.out.ob).mono ?_; rintro e w10 ⟨v10, rfl, ho10, hx10⟩; (have hl10 := ln_len Ht.out; obtain ⟨g10, c10, hv10, _, hg10, _⟩ := ho10.shape (by rw [hl10]; omega); rw [hl10] at hv10; subst hv10; have L10 := Lib.hid ho10; have M10 := Lib.hid (M3.out.ext hx10); have P10 := Lib.hid (P3.out.ext hx10); have Q10 := Lib.hid (Q3.out.ext hx10); clear hl10 ho10 hx10 M3 P3 Q3 hc0 hc1 hc2 hc3; have hc0 := M10.out.c6.c0; have hc1 := M10.out.c6.c1; have hc2 := M10.out.c6.c2; have hc3 := M10.out.c6.c3)) | (go_at_call 9; refine (canonOk_c (n : Int) (n : Int) a b _ _ _ M10.out.oa M10.out.ob).mono ?_; rintro e w11 ⟨b11, rfl, hb11, hx11⟩; (obtain rfl := hb11.2 Hcan.out; clear hb11; have L11 := Lib.hid (L10.out.ext hx11); have M11 := Lib.hid (M10.out.ext hx11); have P11 := Lib.hid (P10.out.ext hx11); have Q11 := Lib.hid (Q10.out.ext hx11); clear hx11 M10 P10 Q10 L10 hc0 hc1 hc2 hc3; have hc0 := M11.out.c6.c0; have hc1 := M11.out.c6.c1; have hc2 := M11.out.c6.c2; have hc3 := M11.out.c6.c3)) | (go_at_call 10; clear tokA; refine (isTight_c (n : Int) (n : Int) a b _ _ _ M11.out.oa M11.out.ob).mono ?_; rintro e w12 ⟨rfl, hx12⟩; rw [T1.out]; have L12 := Lib.hid (L11.out.ext hx12); have M12 := Lib.hid (M11.out.ext hx12); have P12 := Lib.hid (P11.out.ext hx12); have Q12 := Lib.hid (Q11.out.ext hx12); clear hx12 M11 P11 Q11 L11 hc0 hc1 hc2 hc3; have hd0 := P12.out.c6.c0; have hd1 := P12.out.c6.c1; have hd2 := P12.out.c6.c2; have hd3 := P12.out.c6.c3) | (go_at_call 10; clear tokB; refine (isTight_c (n : Int) (n : Int) b a _ _ _ P12.out.oa P12.out.ob).mono ?_; rintro e w13 ⟨rfl, hx13⟩; rw [T2.out]; have L13 := Lib.hid (L12.out.ext hx13); have M13 := Lib.hid (M12.out.ext hx13); have Q13 := Lib.hid (Q12.out.ext hx13); clear hx13 M12 P12 Q12 L12 hd0 hd1 hd2 hd3; have he0 := Q13.out.c6.c0; have he1 := Q13.out.c6.c1; have he2 := Q13.out.c6.c2; have he3 := Q13.out.c6.c3) | (go_at_call 10; refine (isTight_c (n : Int) (n : Int) ay yb _ _ _ Q13.out.oa Q13.out.ob).mono ?_; rintro e w14 ⟨rfl, hx14⟩; rw [T3.out]; have L14 := Lib.hid (L13.out.ext hx14); have M14 := Lib.hid (M13.out.ext hx14); clear hx14 M13 Q13 L13 he0 he1 he2 he3; have hc0 := M14.out.c6.c0; have hc1 := M14.out.c6.c1; have hc2 := M14.out.c6.c2; have hc3 := M14.out.c6.c3) | (go_at_call 11; refine (countClashes_t n a b _ _ _ M14.out.oa M14.out.ob Hcan.out).mono ?_; rintro e w15 ⟨rfl, hx15⟩; (rw [Hclu.out]; have L15 := Lib.hid (L14.out.ext hx15); have M15 := Lib.hid (M14.out.ext hx15); clear hx15 M14 L14 hc0 hc1 hc2 hc3)))
    go_loopw [12] (fun i wr => ∃ j : Nat, j ≤ n ∧ i = .int .i64 j ∧ Hid (Ext w15 wr)) (fun i _ => n - (intOf i).toNat)
    case atStart => exact ⟨0, Nat.zero_le _, rfl, Below.refl _ _⟩
    case round =>
      obtain ⟨j, hj, rfl, hh⟩ := hrel
      have Mr := Lib.hid (M15.out.ext hh.out)
      have Lr := Lib.hid (L15.out.ext hh.out)
      have hc0 := Mr.out.c6.c0
      have hc1 := Mr.out.c6.c1
      have hc2 := Mr.out.c6.c2
      have hc3 := Mr.out.c6.c3
      by_cases hjn : j < n
      · as_aux_lemma =>
          have hji : (j : Int) < (n : Int) := by omega
          obtain ⟨z, hz, hzr, hzm⟩ := vs_one Ht.out hjn
          have Hgl := Lib.hid (ln_get Ht.out hjn hz)
          have Hvr := Lib.hid (vr_beat Ht.out hjn hzr hzm)
          obtain ⟨s, hs⟩ : ∃ s, s = j + n := ⟨_, rfl⟩
          have hsi : (j : Int) + (n : Int) = (s : Int) := by omega
          have hs24 : s ≤ 24 := by omega
          have Hadd : Hid (vsL n a b (s : Int) = [(z : Int)]) := by rw [← hsi]; unfold Hid; rw [vs_add]; exact hz
          have Hz := Lib.hid hz
          rw [← Hkb.out] at hzr
          clear hz hzm hs
          go_wp2_with (first | (go_at_call 12; refine (voicesAtF_t n a b (j : Int) _ _ _ Mr.out.oa Mr.out.ob Hcan.out (by omega)).mono ?_; rintro e w20 ⟨v20, rfl, ho20, hx20⟩; (rw [Hz.out] at ho20; obtain ⟨g20, c20, hv20, _, _, _⟩ := ho20.shape (by simp); change v20 = .slice _ 1 _ at hv20; subst hv20; have V20 := Lib.hid ho20; have M20 := Lib.hid (Mr.out.ext hx20); have L20 := Lib.hid (Lr.out.ext hx20); have H20 := Lib.hid (hh.out.tr hx20); clear ho20 hx20 hc0 hc1 hc2 hc3)))
          have s0 := M20.out.c6.c0
          have s1 := M20.out.c6.c1
          have s2 := M20.out.c6.c2
          have s3 := M20.out.c6.c3
          have s4 : w20.cell? ⟨g20, 0, none⟩ = some (.int .i64 z) := V20.out.cell (k := 0) rfl
          have s5 := L20.out.cell Hgl.out
          have s6 := M20.out.r4.c1
          have hsw : IntKind.i64.wrap (s : Int) = (s : Int) := IntWalk.i64_in _ (by omega)
          clear Mr Lr
          have hzz : ((z : Int) != (z : Int)) = false := by simp
          have hz0 : decide ((z : Int) < 0) = false := by simp
          have hzk : decide ((kb : Int) ≤ (z : Int)) = false := by simp; omega
          first
            | (go_region_held3 (fun w' => w'.cell? ⟨b6, 0, none⟩ = some (.int .i64 n) ∧ w'.cell? ⟨b6, 1, none⟩ = some (.slice A1 ka c1) ∧ w'.cell? ⟨b6, 2, none⟩ = some (.int .i64 n) ∧ w'.cell? ⟨b6, 3, none⟩ = some (.slice A2 kb c2) ∧ w'.cell? ⟨g20, 0, none⟩ = some (.int .i64 z) ∧ w'.cell? ⟨g10, j, none⟩ = some (.int .i64 z) ∧ w'.cell? ⟨b4, 1, none⟩ = some (.slice A2 kb c2))
                (first
                  | with_reducible exact ⟨E22.out.cell_of s0, E22.out.cell_of s1, E22.out.cell_of s2, E22.out.cell_of s3, E22.out.cell_of s4, E22.out.cell_of s5, E22.out.cell_of s6⟩
                  | with_reducible exact ⟨E21.out.cell_of s0, E21.out.cell_of s1, E21.out.cell_of s2, E21.out.cell_of s3, E21.out.cell_of s4, E21.out.cell_of s5, E21.out.cell_of s6⟩
                  | (go_keep; done))
                (first
                  | (go_at_call 12; refine (voicesAtF_t n a b (s : Int) _ _ _ M20.out.oa.drew M20.out.ob.drew Hcan.out (by omega)).mono ?_; rintro e w21 ⟨v21, rfl, ho21, hx21⟩; rw [Hadd.out] at ho21; obtain ⟨A21, k21, c21, rfl⟩ := ho21.form; have E21 : Hid (Ext w20 w21) := Ext.ofD hx21)
                  | (go_at_call 13; refine (lawSame_c [(z : Int)] [(z : Int)] _ _ _ ho21.ints (V20.out.ext E21.out).ints).mono ?_; rintro e w22 ⟨b22, rfl, hb22, hx22⟩; obtain rfl := hb22.2 rfl; clear hb22; have E22 : Hid (Ext w20 w22) := E21.out.tr hx22)))
            | fail
          have M22 := Lib.hid (M20.out.ext E22.out)
          have V22 := Lib.hid (V20.out.ext E22.out)
          have HV := Lib.hid (vr_t (x := b.getD z 0) Hvr.out.1 (get_of_lt (by rw [← Hkb.out]; exact hzr)))
          have X22 := Lib.hid (H20.out.tr E22.out)
          clear s0 s1 s2 s3 s4 s5 s6 E21 E22 M20 V20 L20 H20 hzz hz0 hzk
          try clear ho21 hx21 hx22
          have s0 := M22.out.c6.c0
          have s1 := M22.out.c6.c1
          have s2 := M22.out.c6.c2
          have s3 := M22.out.c6.c3
          have s4 : w22.cell? ⟨g20, 0, none⟩ = some (.int .i64 z) := V22.out.cell (k := 0) rfl
          go_wp2_with fail
          first
            | (go_region_held3 (fun w' => w'.cell? ⟨b6, 0, none⟩ = some (.int .i64 n) ∧ w'.cell? ⟨b6, 1, none⟩ = some (.slice A1 ka c1) ∧ w'.cell? ⟨b6, 2, none⟩ = some (.int .i64 n) ∧ w'.cell? ⟨b6, 3, none⟩ = some (.slice A2 kb c2) ∧ w'.cell? ⟨g20, 0, none⟩ = some (.int .i64 z))
                (first
                  | (refine ⟨Ext.cell_of ?_ s0, Ext.cell_of ?_ s1, Ext.cell_of ?_ s2, Ext.cell_of ?_ s3, Ext.cell_of ?_ s4⟩ <;> (repeat (first | exact E23.out | apply Ext.dr | apply Ext.al | (refine Ext.st ?_ (by first | exact Nat.le_refl _ | exact hz23 | fail)))); done)
                  | (refine ⟨Ext.cell_of ?_ s0, Ext.cell_of ?_ s1, Ext.cell_of ?_ s2, Ext.cell_of ?_ s3, Ext.cell_of ?_ s4⟩ <;> (repeat (first | exact Below.refl _ _ | exact Ext.dr0 _ | apply Ext.dr | apply Ext.al)); done)
                  | (go_keep; done))
                (first
                  | (go_at_call 14; refine (voiceRhythm_c (n : Int) (n : Int) a b (z : Int) _ _ _ (M22.out.oa.ext (by (repeat (first | exact Below.refl _ _ | exact Ext.dr0 _ | apply Ext.dr | apply Ext.al)); done)) (M22.out.ob.ext (by (repeat (first | exact Below.refl _ _ | exact Ext.dr0 _ | apply Ext.dr | apply Ext.al)); done))).mono ?_; rintro e w23 ⟨v23, rfl, ho23, hx23⟩; have E23 : Hid (Ext w22 w23) := Ext.tr (by (repeat (first | exact Below.refl _ _ | exact Ext.dr0 _ | apply Ext.dr | apply Ext.al)); done) hx23; have hz23 := E23.out.size; rw [HV.out.1, HV.out.2.1]; rw [HV.out.2.2] at ho23; obtain ⟨A23, k23, c23, rfl⟩ := ho23.form; (first | (have Nv : Hid (RVar w23 w22.heap.size 0 (.slice none 0 0)) := RVar.extD (RVar.new (T := 25) w22 0 (.slice none 0 0)) hx23; have hnb := Lib.hid (RVar.lt (RVar.new (T := 25) w22 0 (.slice none 0 0)))) | (have Nv : Hid (RVar w23 w22.heap.size 0 (.slice none 0 0)) := RVar.ext (RVar.new (T := 25) w22 0 (.slice none 0 0)) hx23; have hnb := Lib.hid (RVar.lt (RVar.new (T := 25) w22 0 (.slice none 0 0)))) | (have Nv : True := trivial)); (try (have he0 := Nv.out.c0; have hf0 := Nv.out.f 0; have he1 := (Nv.out.set0 (m := (n : Int))).c1; have hf1 := (Nv.out.set0 (m := (n : Int))).f 1)))))
            | fail
          all_goals
            first
              | (obtain ⟨W24, hW24⟩ : ∃ W, W = w23.alloc (.cells #[.int .i64 (n : Int), .slice A23 k23 c23] 25) := ⟨_, rfl⟩
                 obtain ⟨b14, hb14⟩ : ∃ b, b = w23.heap.size := ⟨_, rfl⟩
                 have R24 : Hid (RVar W24 b14 n (.slice A23 k23 c23)) := by rw [hW24, hb14]; exact RVar.new _ _ _
                 have O24 : Hid (Ints W24 (.slice A23 k23 c23) (rotL n a (b.getD z 0))) := by rw [hW24]; exact ho23.ints.ext (one_box _ _)
                 have E24 : Hid (Ext w22 W24) := by rw [hW24]; exact E23.out.al
                 rw [← hW24, ← hb14])
              | (obtain ⟨W24, hW24⟩ : ∃ W, W = (w23.setCell ⟨w22.heap.size, 0, none⟩ (.int .i64 (n : Int))).setCell ⟨w22.heap.size, 1, none⟩ (.slice A23 k23 c23) := ⟨_, rfl⟩
                 obtain ⟨b14, hb14⟩ : ∃ b, b = w22.heap.size := ⟨_, rfl⟩
                 have R24 : Hid (RVar W24 b14 n (.slice A23 k23 c23)) := by rw [hW24, hb14]; exact Nv.out.set0.set1
                 have O24 : Hid (Ints W24 (.slice A23 k23 c23) (rotL n a (b.getD z 0))) := by rw [hW24]; exact ((ho23.other hnb.out).other hnb.out).ints
                 have E24 : Hid (Ext w22 W24) := by rw [hW24]; exact (E23.out.st (Nat.le_refl _)).st (Nat.le_refl _)
                 rw [← hW24, ← hb14]
                 clear he0 hf0 he1 hf1 Nv hnb)
          all_goals
            clear hW24 hb14 ho23 hx23 E23 hz23 s0 s1 s2 s3 s4
            have X24 := Lib.hid (X22.out.tr E24.out)
            have s0 := R24.out.c0
            have s1 := R24.out.c1
            go_wp2_with (first | (go_at_call 15; refine (hasBeat_t n (rotL n a (b.getD z 0)) (j : Int) _ _ O24.out (rot_okJ Ht.out.okl _) Hvr.out.2).mono ?_; rintro e w25 ⟨rfl, hx25⟩))
            go_roundw
            case rel => exact ⟨j + 1, by omega, by go_num, X24.out.tr hx25⟩
            case measure => simp [intOf]; omega
      · obtain rfl : n = j := by omega
        have Mz := Lib.hid (M15.out.ext hh.out)
        have hc0 := Mz.out.c6.c0
        have hc1 := Mz.out.c6.c1
        have hc2 := Mz.out.c6.c2
        have hc3 := Mz.out.c6.c3
        have Hfc := Lib.hid (fcL_t (n := n) Hcan.out)
        obtain ⟨es, e1, e2, e3, e4, e5, e6, e7, e8⟩ := can_back Ht.out H0.out
        have Hes := Lib.hid e5
        have Hcz := Lib.hid e6
        have Hback := Lib.hid e7
        have Hhead := Lib.hid e8
        have E1 := Lib.hid e1
        have E2 := Lib.hid e2
        have E3 := Lib.hid e3
        have E4 := Lib.hid e4
        have Hfl : Hid ((fcN n a b).length = kb) := by unfold Hid; rw [fcN_len, Hkb.out]
        have Hfs : Hid (∀ s ∈ fcN n a b, s.size ≤ 1048576) := fun s hs => by
          unfold fcN at hs
          rw [List.mem_map] at hs
          obtain ⟨o, _, rfl⟩ := hs
          rw [tx_size]; omega
        clear e1 e2 e3 e4 e5 e6 e7 e8 M15 hh T1 T2 T3 Hclu HtX HtY
        go_wp2_with (first | (go_at_call 16; refine (formatCanon_c (n : Int) (n : Int) a b _ _ _ Mz.out.oa Mz.out.ob).mono ?_; rintro e w30 ⟨v30, us30, rfl, ho30, hx30⟩; (rw [Hfc.out] at ho30; have hul30 := ho30.len; rw [Hfl.out] at hul30; obtain ⟨g30, c30, hv30, _, _, _⟩ := ho30.shape (by rw [hul30]; omega); rw [hul30] at hv30; subst hv30; have S30 := Lib.hid ho30; have M30 := Lib.hid (Mz.out.ext hx30); clear ho30 hx30 hul30 Mz hc0 hc1 hc2 hc3)) | (go_at_call 17; refine (readCanon_c (fcN n a b) _ _ _ _ S30.out (by rw [Hfl.out]; omega) Hfs.out).mono ?_; rintro e w31 ⟨v31, u31, rfl, ho31, hp31, ha31, hx31⟩; (rw [E1.out, E2.out]; rw [E3.out] at ho31; rw [E4.out] at hp31; obtain ⟨A31, k31, c31, rfl⟩ := ho31.form; obtain ⟨B31, d31, hv32, _, _⟩ := hp31.slice; rw [Hes.out, ← Hkb.out] at hv32; subst hv32)))
        obtain ⟨W32, hW32⟩ : ∃ W, W = w31.alloc (.cells #[.int .i64 (n : Int), .slice A31 k31 c31, .int .i64 (n : Int), .slice B31 kb d31] 29) := ⟨_, rfl⟩
        obtain ⟨b17, hb17⟩ : ∃ b, b = w31.heap.size := ⟨_, rfl⟩
        have Z32 : Hid (CS W32 n (.slice A31 k31 c31) (.slice B31 kb d31) a es b17) := by rw [hW32, hb17]; exact CS.new ho31.ints hp31.ints
        have X32 : Hid (Ext w30 W32) := by rw [hW32]; exact hx31.al
        rw [← hW32, ← hb17]
        clear hW32 hb17 ho31 hp31 ha31 hx31
        have M32 := Lib.hid (M30.out.ext X32.out)
        have S32 := Lib.hid (S30.out.ext X32.out)
        obtain ⟨st, hst⟩ : ∃ st, st = strOfNums (txU n a) := ⟨_, rfl⟩
        have Hst := Lib.hid hst
        clear M30 S30 X32 hst
        have s0 := M32.out.r4.c1
        have s1 := Z32.out.c6.c0
        have s2 := Z32.out.c6.c1
        have s3 := Z32.out.c6.c3
        have s4 := S32.out.cell Hhead.out
        rw [← Hst.out] at s4
        have hkk : ((kb : Int) != (kb : Int)) = false := by simp
        have h0kb : (0 : Int) < (kb : Int) := by omega
        have h0kn : 0 < kb := by omega
        first
          | (go_region_held3 (fun w' => w'.cell? ⟨b4, 1, none⟩ = some (.slice A2 kb c2) ∧ w'.cell? ⟨b17, 0, none⟩ = some (.int .i64 n) ∧ w'.cell? ⟨b17, 1, none⟩ = some (.slice A31 k31 c31) ∧ w'.cell? ⟨b17, 3, none⟩ = some (.slice B31 kb d31) ∧ w'.cell? ⟨g30, 0, none⟩ = some (.string st))
              (first
                | with_reducible exact ⟨E33.out.cell_of s0, E33.out.cell_of s1, E33.out.cell_of s2, E33.out.cell_of s3, E33.out.cell_of s4⟩
                | (go_keep; done))
              (first
                | (go_at_call 18; refine (formatRhythmI_t n a _ _ Z32.out.oa.drew Ht.out.okl).mono ?_; rintro e w33 ⟨rfl, hx33⟩; rw [← Hst.out]; have E33 : Hid (Ext W32 w33) := Ext.ofD hx33)))
          | fail
        have M33 := Lib.hid (M32.out.ext E33.out)
        have S33 := Lib.hid (S32.out.ext E33.out)
        have Z33 := Lib.hid (Z32.out.ext E33.out)
        clear s0 s1 s2 s3 s4 hkk h0kb M32 S32 Z32 E33
        try clear hx33
        have hc0 := Z33.out.c6.c0
        have hc1 := Z33.out.c6.c1
        have hc2 := Z33.out.c6.c2
        have hc3 := Z33.out.c6.c3
        have Hfz : Hid (fcL n n a es = fcN n a b) := by rw [fcL_t (n := n) Hcz.out]; exact Hback.out
        go_wp2_with (first | (go_at_call 16; refine (formatCanon_c (n : Int) (n : Int) a es _ _ _ Z33.out.oa Z33.out.ob).mono ?_; rintro e w34 ⟨v34, us34, rfl, ho34, hx34⟩; (rw [Hfz.out] at ho34; have hul34 := ho34.len; rw [Hfl.out] at hul34; obtain ⟨g34, c34, hv34, _, _, _⟩ := ho34.shape (by rw [hul34]; omega); rw [hul34] at hv34; subst hv34; have U34 := Lib.hid ho34; have S34 := Lib.hid (S33.out.ext hx34); have M34 := Lib.hid (M33.out.ext hx34); clear ho34 hx34 hul34 M33 S33 Z33 hc0 hc1 hc2 hc3)))
        go_loopw [198] (fun i wr => ∃ k : Nat, k ≤ kb ∧ i = .int .i64 k ∧ Hid (Ext w34 wr)) (fun i _ => kb - (intOf i).toNat)
        case atStart => exact ⟨0, Nat.zero_le _, rfl, Below.refl _ _⟩
        case round =>
          obtain ⟨k, hk, rfl, hh⟩ := hrel
          have Sr := Lib.hid (S34.out.ext hh.out)
          have Ur := Lib.hid (U34.out.ext hh.out)
          by_cases hkb2 : k < kb
          · have hki : (k : Int) < (kb : Int) := by omega
            have hki2 : ¬ (kb : Int) ≤ (k : Int) := by omega
            obtain ⟨sk, hsk⟩ : ∃ s, (fcN n a b)[k]? = some s := ⟨_, List.getElem?_eq_getElem (by rw [Hfl.out]; exact hkb2)⟩
            have s1 := Sr.out.cell hsk
            have s2 := Ur.out.cell hsk
            clear hsk Sr Ur
            go_wp2
            go_roundw
            case rel => exact ⟨k + 1, by omega, by go_num, hh.out⟩
            case measure => simp [intOf]; omega
          · obtain rfl : k = kb := by omega
            have M35 := Lib.hid (M34.out.ext hh.out)
            clear M34 hh Sr Ur S34 U34
            have Hv35 := Lib.hid (Hv.out.ext M35.out.x)
            have tokA : True := trivial
            go_wp2_with (first | (go_at_call 19; clear tokA; refine (makeOf_c l 60 _ _ Hv35.out (by omega)).mono ?_; rintro e w36 ⟨l1, v36, hr36, rfl, ho36, hx36⟩; have Hr1 := Lib.hid hr36; obtain ⟨A36, k36, c36, rfl⟩ := ho36.form; have O36 := Lib.hid ho36.ints; have X36 := Lib.hid (M35.out.x.tr hx36); clear hr36 ho36 hx36) | (go_at_call 19; refine (makeOf_c l 70 _ _ (Hv.out.ext X36.out) (by omega)).mono ?_; rintro e w37 ⟨l2, v37, hr37, rfl, ho37, hx37⟩; have Hr2 := Lib.hid hr37; obtain ⟨A37, k37, c37, rfl⟩ := ho37.form; have O37 := Lib.hid ho37.ints; have O36b := Lib.hid (O36.out.ext hx37); have X37 := Lib.hid (X36.out.tr hx37); clear hr37 ho37 hx37))
            obtain ⟨W38, hW38⟩ : ∃ W, W = w37.alloc (.cells #[.int .i64 6, .slice A36 k36 c36, .int .i64 6, .slice A37 k37 c37] 29) := ⟨_, rfl⟩
            obtain ⟨b22, hb22⟩ : ∃ b, b = w37.heap.size := ⟨_, rfl⟩
            have P38 : Hid (CS W38 6 (.slice A36 k36 c36) (.slice A37 k37 c37) l1 l2 b22) := by rw [hW38, hb22]; exact CS.new O36b.out O37.out
            have X38 : Hid (Ext w W38) := by rw [hW38]; exact X37.out.al
            rw [← hW38, ← hb22]
            clear hW38 hb22 O36 O36b O37 X36 X37 M35 Hv35
            have hc0 : W38.cell? ⟨b22, 0, none⟩ = some (.int .i64 6) := P38.out.c6.c0
            have hc1 := P38.out.c6.c1
            have hc2 : W38.cell? ⟨b22, 2, none⟩ = some (.int .i64 6) := P38.out.c6.c2
            have hc3 := P38.out.c6.c3
            by_cases hcp : canOk 6 6 l1 l2
            · have Hcp : Hid (canOk ((6 : Nat) : Int) ((6 : Nat) : Int) l1 l2) := hcp
              have Hln : Hid (lnL 6 6 l1 l2 = lnUp 6 l1 l2 6) := lnL_t (n := 6) (m := 6) hcp
              clear hcp
              go_wp2_with (first | (go_at_call 8; refine (lineOf_c 6 6 l1 l2 _ _ _ P38.out.oa P38.out.ob).mono ?_; rintro e w39 ⟨v39, rfl, ho39, hx39⟩; (rw [Hln.out] at ho39; obtain ⟨g39, c39, hv39, _, _, _⟩ := ho39.shape (by rw [lnUp_len]; omega); rw [lnUp_len] at hv39; subst hv39; have L39 := Lib.hid ho39; have P39 := Lib.hid (P38.out.ext hx39); have X39 := Lib.hid (X38.out.tr hx39); clear ho39 hx39 P38 X38 hc0 hc1 hc2 hc3)))
              go_loopw [24, 225] (fun c i wr => ∃ k q : Nat, k ≤ 6 ∧ q ≤ k ∧ c = .int .i64 q ∧ i = .int .i64 k ∧ Hid (q = cntM2 (lnUp 6 l1 l2 k)) ∧ Hid (Ext w39 wr)) (fun _ i _ => 6 - (intOf i).toNat)
              case atStart => exact ⟨0, 0, Nat.zero_le _, Nat.zero_le _, rfl, rfl, (by unfold Hid; simp [cntM2, lnUp]), Below.refl _ _⟩
              case round =>
                obtain ⟨k2, q, hk2, hqk, rfl, rfl, Hq, hh⟩ := hrel
                have Lr := Lib.hid (L39.out.ext hh.out)
                by_cases hk6 : k2 < 6
                · have hki : (k2 : Int) < 6 := by omega
                  have hget : (lnUp 6 l1 l2 6)[k2]? = some (lnC (vsL 6 l1 l2 k2)) := by unfold lnUp; rw [List.getElem?_map, List.getElem?_range hk6]; rfl
                  obtain ⟨x, hx⟩ : ∃ x, x = lnC (vsL 6 l1 l2 k2) := ⟨_, rfl⟩
                  rw [← hx] at hget
                  have s1 := Lr.out.cell hget
                  have Hx := Lib.hid hx
                  clear hget hx Lr
                  by_cases hx2 : x = -2
                  · subst hx2
                    go_wp2
                    go_roundw
                    case rel => exact ⟨k2 + 1, q + 1, by omega, by omega, by go_num, by go_num, by unfold Hid; rw [cnt_step, ← Hx.out, ← Hq.out]; rfl, hh.out⟩
                    case measure => simp [intOf]; omega
                  · have hxb : (x == -2) = false := by rw [beq_eq_false_iff_ne]; exact hx2
                    have Hx2 := Lib.hid hx2
                    clear hx2
                    go_wp2
                    go_roundw
                    case rel => exact ⟨k2 + 1, q, by omega, by omega, rfl, by go_num, by unfold Hid; rw [cnt_step, ← Hx.out, ← Hq.out, if_neg Hx2.out]; rfl, hh.out⟩
                    case measure => simp [intOf]; omega
                · obtain rfl : k2 = 6 := by omega
                  have Pr := Lib.hid (P39.out.ext hh.out)
                  have Xr := Lib.hid (X39.out.tr hh.out)
                  have Hclu : Hid (cluI 6 l1 l2 = q) := by unfold Hid cluI; rw [Hq.out]; exact (cnt_clu Hr1.out Hr2.out 6 (Nat.le_refl _)).symm
                  have Htg := Lib.hid (tig_p Hcp.out)
                  have hc0 : wr.cell? ⟨b22, 0, none⟩ = some (.int .i64 6) := Pr.out.c6.c0
                  have hc1 := Pr.out.c6.c1
                  have hc2 : wr.cell? ⟨b22, 2, none⟩ = some (.int .i64 6) := Pr.out.c6.c2
                  have hc3 := Pr.out.c6.c3
                  have hqq : ((q : Int) == (q : Int)) = true := by simp
                  have tokA : True := trivial
                  have Hm : Hid (lnL ((6 : Nat) : Int) ((6 : Nat) : Int) l1 l2 = lnUp 6 l1 l2 6) := Hln.out
                  by_cases hq0 : q = 0
                  · subst hq0
                    by_cases hmem : (-1 : Int) ∈ lnUp 6 l1 l2 6
                    · have Hmem := Lib.hid hmem
                      have Ht2 : Hid (tigB 6 6 l1 l2 = false) := by
                        have h := Htg.out
                        rw [Hclu.out, Hm.out] at h
                        unfold Hid
                        simpa [hmem] using h
                      clear hmem
                      go_wp2_with (first | (go_at_call 9; refine (canonOk_c 6 6 l1 l2 _ _ _ Pr.out.oa Pr.out.ob).mono ?_; rintro e w40 ⟨b40, rfl, hb40, hx40⟩; (obtain rfl := hb40.2 Hcp.out; clear hb40; have P40 := Lib.hid (Pr.out.ext hx40); have L40 := Lib.hid (Lr.out.ext hx40); clear hc0 hc1 hc2 hc3; have hd0 : w40.cell? ⟨b22, 0, none⟩ = some (.int .i64 6) := P40.out.c6.c0; have hd1 := P40.out.c6.c1; have hd2 : w40.cell? ⟨b22, 2, none⟩ = some (.int .i64 6) := P40.out.c6.c2; have hd3 := P40.out.c6.c3)) | (go_at_call 11; refine (countClashes_t 6 l1 l2 _ _ _ P40.out.oa P40.out.ob Hcp.out).mono ?_; rintro e w41 ⟨rfl, hx41⟩; (rw [Hclu.out]; have P41 := Lib.hid (P40.out.ext hx41); have L41 := Lib.hid (L40.out.ext hx41); clear hd0 hd1 hd2 hd3; have hd0 : w41.cell? ⟨b22, 0, none⟩ = some (.int .i64 6) := P41.out.c6.c0; have hd1 := P41.out.c6.c1; have hd2 : w41.cell? ⟨b22, 2, none⟩ = some (.int .i64 6) := P41.out.c6.c2; have hd3 := P41.out.c6.c3)) | (go_at_call 10; refine (isTight_c 6 6 l1 l2 _ _ _ P41.out.oa P41.out.ob).mono ?_; rintro e w42 ⟨rfl, hx42⟩; (rw [Ht2.out]; have L42 := Lib.hid (L41.out.ext hx42))) | (go_at_call 20; refine (lawHas_c (lnUp 6 l1 l2 6) (-1) _ _ L42.out.ints).mono ?_; rintro e wz ⟨bz, rfl, hbz, rfl⟩; obtain rfl := hbz.2 Hmem.out; clear hbz))
                      go_ret
                      exact ⟨rfl, Xr.out.tr (hx40.tr (hx41.tr hx42))⟩
                    · have Hmem := Lib.hid hmem
                      have Ht2 : Hid (tigB 6 6 l1 l2 = true) := by
                        have h := Htg.out
                        rw [Hclu.out, Hm.out] at h
                        unfold Hid
                        simpa [hmem] using h
                      clear hmem
                      go_wp2_with (first | (go_at_call 9; refine (canonOk_c 6 6 l1 l2 _ _ _ Pr.out.oa Pr.out.ob).mono ?_; rintro e w40 ⟨b40, rfl, hb40, hx40⟩; (obtain rfl := hb40.2 Hcp.out; clear hb40; have P40 := Lib.hid (Pr.out.ext hx40); have L40 := Lib.hid (Lr.out.ext hx40); clear hc0 hc1 hc2 hc3; have hd0 : w40.cell? ⟨b22, 0, none⟩ = some (.int .i64 6) := P40.out.c6.c0; have hd1 := P40.out.c6.c1; have hd2 : w40.cell? ⟨b22, 2, none⟩ = some (.int .i64 6) := P40.out.c6.c2; have hd3 := P40.out.c6.c3)) | (go_at_call 11; refine (countClashes_t 6 l1 l2 _ _ _ P40.out.oa P40.out.ob Hcp.out).mono ?_; rintro e w41 ⟨rfl, hx41⟩; (rw [Hclu.out]; have P41 := Lib.hid (P40.out.ext hx41); have L41 := Lib.hid (L40.out.ext hx41); clear hd0 hd1 hd2 hd3; have hd0 : w41.cell? ⟨b22, 0, none⟩ = some (.int .i64 6) := P41.out.c6.c0; have hd1 := P41.out.c6.c1; have hd2 : w41.cell? ⟨b22, 2, none⟩ = some (.int .i64 6) := P41.out.c6.c2; have hd3 := P41.out.c6.c3)) | (go_at_call 10; refine (isTight_c 6 6 l1 l2 _ _ _ P41.out.oa P41.out.ob).mono ?_; rintro e w42 ⟨rfl, hx42⟩; (rw [Ht2.out]; have L42 := Lib.hid (L41.out.ext hx42))) | (go_at_call 20; refine (lawHas_c (lnUp 6 l1 l2 6) (-1) _ _ L42.out.ints).mono ?_; rintro e wz ⟨bz, rfl, hbz, rfl⟩; obtain rfl := bool_f hbz Hmem.out; clear hbz))
                      go_ret
                      exact ⟨rfl, Xr.out.tr (hx40.tr (hx41.tr hx42))⟩
                  · have hqz : ((q : Int) == 0) = false := by rw [beq_eq_false_iff_ne]; omega
                    have Ht2 : Hid (tigB 6 6 l1 l2 = false) := by
                      have h := Htg.out
                      rw [Hclu.out] at h
                      unfold Hid
                      simpa [hq0] using h
                    clear hq0
                    go_wp2_with (first | (go_at_call 9; refine (canonOk_c 6 6 l1 l2 _ _ _ Pr.out.oa Pr.out.ob).mono ?_; rintro e w40 ⟨b40, rfl, hb40, hx40⟩; (obtain rfl := hb40.2 Hcp.out; clear hb40; have P40 := Lib.hid (Pr.out.ext hx40); have L40 := Lib.hid (Lr.out.ext hx40); clear hc0 hc1 hc2 hc3; have hd0 : w40.cell? ⟨b22, 0, none⟩ = some (.int .i64 6) := P40.out.c6.c0; have hd1 := P40.out.c6.c1; have hd2 : w40.cell? ⟨b22, 2, none⟩ = some (.int .i64 6) := P40.out.c6.c2; have hd3 := P40.out.c6.c3)) | (go_at_call 11; refine (countClashes_t 6 l1 l2 _ _ _ P40.out.oa P40.out.ob Hcp.out).mono ?_; rintro e w41 ⟨rfl, hx41⟩; (rw [Hclu.out]; have P41 := Lib.hid (P40.out.ext hx41); have L41 := Lib.hid (L40.out.ext hx41); clear hd0 hd1 hd2 hd3; have hd0 : w41.cell? ⟨b22, 0, none⟩ = some (.int .i64 6) := P41.out.c6.c0; have hd1 := P41.out.c6.c1; have hd2 : w41.cell? ⟨b22, 2, none⟩ = some (.int .i64 6) := P41.out.c6.c2; have hd3 := P41.out.c6.c3)) | (go_at_call 10; refine (isTight_c 6 6 l1 l2 _ _ _ P41.out.oa P41.out.ob).mono ?_; rintro e w42 ⟨rfl, hx42⟩; (rw [Ht2.out]; have L42 := Lib.hid (L41.out.ext hx42))))
                    go_ret
                    exact ⟨rfl, Xr.out.tr (hx40.tr (hx41.tr hx42))⟩
            · have Hn : Hid (¬ canOk 6 6 l1 l2) := hcp
              have Hln := Lib.hid (lnL_f (n := 6) (m := 6) hcp)
              clear hcp
              go_wp2_with (first | (go_at_call 8; refine (lineOf_c 6 6 l1 l2 _ _ _ P38.out.oa P38.out.ob).mono ?_; rintro e w39 ⟨v39, rfl, ho39, hx39⟩; (rw [Hln.out] at ho39; obtain ⟨A39, c39, hv39, _, _⟩ := ho39.slice; change v39 = .slice A39 0 c39 at hv39; subst hv39; have P39 := Lib.hid (P38.out.ext hx39); have X39 := Lib.hid (X38.out.tr hx39); clear ho39 hx39 P38 X38 hc0 hc1 hc2 hc3)))
              go_loopw [24, 225] (fun c i wr => c = .int .i64 0 ∧ i = .int .i64 0 ∧ wr = w39) (fun _ _ _ => 0)
              case atStart => exact ⟨rfl, rfl, rfl⟩
              case round =>
                obtain ⟨rfl, rfl, rfl⟩ := hrel
                have hc0 : wr.cell? ⟨b22, 0, none⟩ = some (.int .i64 6) := P39.out.c6.c0
                have hc1 := P39.out.c6.c1
                have hc2 : wr.cell? ⟨b22, 2, none⟩ = some (.int .i64 6) := P39.out.c6.c2
                have hc3 := P39.out.c6.c3
                go_wp2_with (first | (go_at_call 9; refine (canonOk_c 6 6 l1 l2 _ _ _ P39.out.oa P39.out.ob).mono ?_; rintro e w40 ⟨b40, rfl, hb40, hx40⟩; (obtain rfl := bool_f hb40 Hn.out; clear hb40)))
                go_ret
                exact ⟨rfl, X39.out.tr hx40⟩
namespace fnCanonsGlue
set_option maxRecDepth 100000 in
theorem lifted (os : Os) (started : os.Started) (H : Type) (enc : TypeId × Value → H) :
    ReturnsInHanded {} Tryz.checked os 3 .any (fun w args => (Rows.fnCanonsSpec.pre enc Tryz.prog Tryz.f3 [] false w args ∧ laidMetH Tryz.prog laidD w) ∧ sizedMet enc Tryz.prog Tryz.f3 (OpenSpec.ofChange Rows.fnCanonsSpec) false w args) (Rows.fnCanonsSpec.post enc Tryz.prog Tryz.f3 false true false false) := by
  refine returnsInHanded_of_change_and (C := Tryz.checked) (X := fun w _ => laidMetH Tryz.prog laidD w) (fun _ _ _ hh h => h.of_heap hh) own started (by kernel_rfl) Tryz.func3
    (ChangeSpec.witness_shaped (enc := enc) (C := Tryz.checked) (os := os) (X := fun w _ => laidMetH Tryz.prog laidD w) false (World.laidAll Tryz.prog os laidD) #[.slice none 0 0] 8 (World.laidAll_os _ _ _) (World.shaped_of_ZipB (by kernel_rfl) (by kernel_rfl)) (by kernel_rfl) (by kernel_rfl) (by kernel_rfl) (door_met os _)) ?_
  intro W base args ds gs before hval0 hW _ _ hL _
  have hval : ∀ (j : Nat) t v, Tryz.f3.params[j]? = some t → args[j]? = some v → Value.okWide Tryz.prog W .any base t v := hval0
  have hW' := hW
  obtain ⟨p, q, hA0, hV, rfl, hfz, hnd⟩ := hW
  have hA : DataW.TrodAll enc Tryz.prog W 0 (fun _ => true) true Tryz.f3.params.toList args.toList ds p := hA0
  rw [Tryz.params3] at hA hval
  obtain ⟨v0, vs0, d0, ds0, p0, q0, hargs, rfl, rfl, h0, r0⟩ := trodAll_cons hA
  obtain ⟨rfl, rfl, rfl⟩ := trodAll_nil r0
  obtain rfl : args = #[v0] := by cases args; simp_all
  obtain ⟨rfl, rfl⟩ := trodVars_none hV
  have k0 := h0
  have lt0 : ∀ x ∈ p0, x.block < W.heap.size := by obtain ⟨m, hm⟩ := k0; exact DataW.trod_lt m _ _ _ hm
  obtain ⟨l0, w0⟩ := bytes_in (hval 0 22 v0 rfl rfl) h0
  clear hA0 hval0
  refine (lawCanons_c l0 v0 W w0).mono fun e W' ⟨he, bel⟩ => ?_
  subst he
  exact ⟨_, rfl, _, _, _, [], _, [], hW', trodAll_mk1 (shut_bool Tryz.underlying4 _), (trodAll_cons_mk (Below.trod laidOut (by kernel_rfl) (of_decide_eq_true (by kernel_rfl)) k0 bel lt0) trodAll_mk0), rfl, bel.frame _, fun h => by cases h⟩
theorem over : Rows.fnCanonsRow.holds Tryz.pinned (OpenSpec.ofChange Rows.fnCanonsSpec) :=
  OpenClaim.holds_of_wide 3 Tryz.f3 rfl rfl rfl rfl rfl rfl rfl ⟨rfl, rfl, rfl, rfl, rfl⟩ rfl rfl rfl rfl rfl (by kernel_rfl) Tryz.func3 (by kernel_rfl)
    (of_decide_eq_true (by kernel_rfl)) (by unfold Func.isWrapper; first | (rw [if_pos (by decide +kernel)]; kernel_rfl) | (rw [if_neg (by decide +kernel)]; exact ⟨rfl, rfl⟩))
    (fun os started H enc _ => lifted os started H enc)
end fnCanonsGlue
theorem fnCanons_row : Rows.FnCanonsSaid := fnCanonsGlue.over
/-- THE STATEMENT: the tied card. -/
theorem fnCanons_holds : Rows.FnCanonsCardSaid :=
  Claim7.holds_tied_plain_at .later [] [.data, .pinned] true (true, "493c30f0ddb18161dd26a90fb29a8bbfe7e6d3aed0499675c2703e9d53d72c93") false
    fnCanons_row (fun _ h => by cases h) (by kernel_rfl) (fun _ h => by cases h) fnCanons_row_tie rfl ⟨rfl, rfl⟩ (by kernel_rfl) rfl
    (fun f fn hf hfn => by
      obtain rfl : f = 3 := Option.some.inj ((show Tryz.prog.funcNamed "loop.example/g03204/laws.FnCanons" = some 3 by kernel_rfl).symm.trans hf) |>.symm
      obtain rfl : fn = Tryz.f3 := (Option.some.inj (Tryz.func3.symm.trans hfn)).symm
      exact ⟨by kernel_rfl, fun j t ht => by
        rw [Tryz.params3] at ht
        have hm : t ∈ [22] := by simpa using Array.mem_of_getElem? ht
        have hall : ([22].all fun u => !Tryz.prog.wantsStandIn u) = true := by kernel_rfl
        exact (show Tryz.prog.wantsStandIn t = false by simpa using List.all_eq_true.1 hall t hm)⟩)
    (by kernel_rfl)
#print axioms fnCanons_holds
end Go.Proofs.YtjecdmlojgmbeaaGreatDoor
