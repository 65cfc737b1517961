/- Contracts: l09Find, PartnersOf. -/
import Derived.Test.YtjecdmlojgmbeaaGreatDoorFbt
import Derived.Test.YtjecdmlojgmbeaaGreatDoorRsi
import Derived.Test.YtjecdmlojgmbeaaGreatDoorBlk
import Derived.Deep.RegionLaw
import Derived.Deep.DeepCutAuto
namespace Go.Proofs.YtjecdmlojgmbeaaGreatDoor
open Go.RowKit
/-- what the making of x leaves: x is block X, its beats a row of the call's own -/
def XMade (w wr : World) (X n : Nat) (v : Value) (l : List Int) : Prop := RVar wr X n v ∧ Own wr w.heap.size v l ∧ Ext w wr
theorem Ext.al {W w : World} {o : Obj} (h : Ext W w) : Ext W (w.alloc o) := h.tr (one_box w o)
theorem Ext.dr {W w : World} (h : Ext W w) : Ext W w.drew := Below.drew h
theorem Ext.dr0 (W : World) : Ext W W.drew := Below.drew (Below.refl _ _)
theorem Ext.st {W w : World} {b k : Nat} {v : Value} (h : Ext W w) (hb : W.heap.size ≤ b) : Ext W (w.setCell ⟨b, k, none⟩ v) := Below.setCell (p := ⟨b, k, none⟩) h hb v
theorem heap_al (w : World) (o : Obj) : (w.alloc o).heap = w.heap.push o := rfl
theorem heap_dr (w : World) : w.drew.heap = w.heap := rfl
theorem Own.emp {W : World} {B N : Nat} (h : W.heap[N]? = some (.cells #[] 3 (0, 0))) (hB : B ≤ N) : Own W B (.slice (some ⟨N, 0, none⟩) 0 0) [] :=
  ⟨⟨by simp, .inr ⟨N, 0, #[], rfl, hB, h, Nat.le_refl _, Nat.zero_le _, rfl, rfl⟩⟩, fun _ h => by simp at h⟩
def FindAt (n : Nat) (a : List Int) (B d : Nat) : Prop := ∀ (p : Nat) (b : List Int) (va vb : Value) (w : World) (out : Value) (us : List (Int × Value)), p + d = n → FI n p a b → Own w B va a → Own w B vb b → RsI w B out us (TileP n a) → Apart va out → Apart vb out → us.length + 2 ^ d ≤ 100000 → B ≤ w.heap.size →
    Calls Tryz.prog 51 #[.agg #[.int .i64 n, va], .agg #[.int .i64 n, vb], out, .int .i64 p, .bool false] w (FO B (TileP n a) (us.length + 2 ^ d) out w)
/-- a variable of the type Rhythm, its type said -/
def RVt (w : World) (q : Nat) (n : Int) (v : Value) : Prop := w.heap[q]? = some (.cells #[.int .i64 n, v] 25 (0, 0))
theorem RVt.rv {w : World} {q : Nat} {n : Int} {v : Value} (h : RVt w q n v) : RVar w q n v := ⟨_, h⟩
theorem RVt.kept {w w' : World} {b : Nat} {n : Int} {v : Value} {row : Option Nat} (h : RVt w b n v) (hg : w.grownBy w' row) (hne : row ≠ some b) : RVt w' b n v := by
  unfold RVt
  rw [hg.block b h.rv.lt (fun e => hne e.symm)]
  exact h
theorem RVt.two {W w3 W' w4 : World} {q N : Nat} {n : Int} {v v3 : Value} (h : RVt W q n v) (hg3 : W.grownBy w3 (Value.slice (some ⟨N, 0, none⟩) 0 0).ownBlock) (hne : N ≠ q) (hx : Ext w3 W') (hg4 : W'.grownBy w4 v3.ownBlock)
    (hat3 : ∀ k, v3.ownBlock = some k → (Value.slice (some ⟨N, 0, none⟩) 0 0).ownBlock = some k ∨ W.heap.size ≤ k) : RVt w4 q n v := by
  have hl := h.rv.lt
  refine ((h.kept hg3 (by simp [Value.ownBlock]; exact hne)).kept (grownBy_of_ext hx none) (by simp)).kept hg4 fun e => ?_
  rcases hat3 q e with h' | h'
  · simp [Value.ownBlock] at h'; exact hne h'
  · omega
theorem Own.ne_var {w : World} {B q : Nat} {n : Int} {v u : Value} {l : List Int} (h : Own w B v l) (hq : RVt w q n u) : v.ownBlock ≠ some q := by
  intro e
  rcases h.1.2 with ⟨rfl, _⟩ | ⟨g, cap, cur, rfl, _, hg, _⟩
  · simp [Value.ownBlock] at e
  · have e2 : g = q := by simpa [Value.ownBlock] using e
    subst e2
    unfold RVt at hq
    rw [hq] at hg
    injection hg with hg
    injection hg with _ ht _
    exact absurd ht (by decide)
theorem Own.setv {w : World} {B q k : Nat} {v x : Value} {l : List Int} (h : Own w B v l) (hne : v.ownBlock ≠ some q) : Own (w.setCell ⟨q, k, none⟩ x) B v l := h.kept (grownBy_set w q k x) (.inr hne)
set_option maxRecDepth 100000 in
set_option maxHeartbeats 4000000 in
theorem l09Find_s (n : Nat) (a : List Int) (B d : Nat) (ih : ∀ m, m < d → FindAt n a B m) : FindAt n a B d := by
  intro p b va vb w out us hpd hI hoa hob hout hapa hapb hM hB
  have hv := hoa.ints
  have hu := hob.ints
  have h2 : 1 ≤ 2 ^ d := Nat.one_le_two_pow
  have hn := hI.oka.1
  have hn12 := hI.n12
  have hka := hI.ka
  have hkl := inc_len hI.oka.2.1 hI.oka.2.2
  have hkb := hI.blen
  have hpn := hI.pn
  obtain ⟨Ao, co, rfl, _, _⟩ := hout.form
  obtain ⟨A, c, hve, _, _⟩ := hv.form0
  obtain ⟨A', c', hue, _, _⟩ := hu.form0
  obtain ⟨k, hk⟩ : ∃ k, k = a.length := ⟨_, rfl⟩
  obtain ⟨k', hk'⟩ : ∃ k', k' = b.length := ⟨_, rfl⟩
  rw [← hk] at hve
  rw [← hk'] at hue
  subst hve
  subst hue
  have hx := two_boxes w (.cells #[.int .i64 (n : Int), .slice A k c] 25) (.cells #[.int .i64 (n : Int), .slice A' k' c'] 25)
  have ha := (RVar.new (T := 25) w (n : Int) (.slice A k c)).ext (one_box _ (.cells #[.int .i64 (n : Int), .slice A' k' c'] 25))
  have hb : RVar ((w.alloc (.cells #[.int .i64 (n : Int), .slice A k c] 25)).alloc (.cells #[.int .i64 (n : Int), .slice A' k' c'] 25)) (w.heap.size + 1) (n : Int) (.slice A' k' c') := by
    simpa only [World.size_alloc] using RVar.new (T := 25) (w.alloc (.cells #[.int .i64 (n : Int), .slice A k c] 25)) (n : Int) (.slice A' k' c')
  have Hv := Lib.hid (hv.ext hx)
  have Hu := Lib.hid (hu.ext hx)
  have Hx := Lib.hid hx
  have Ha := Lib.hid ha
  have Hb := Lib.hid hb
  clear hv hu hx hk hk' ha hb
  have hk : k = a.length := hoa.n_eq
  have hk' : k' = b.length := hob.n_eq
  rw [← hk] at hka hkl
  rw [← hk'] at hkb
  have Hk := Lib.hid hk
  have Hk' := Lib.hid hk'
  have HI := Lib.hid hI
  have Hoa := Lib.hid hoa
  have Hob := Lib.hid hob
  have Ho := Lib.hid hout
  have Hapa := Lib.hid hapa
  have Hapb := Lib.hid hapb
  have Hpd := Lib.hid hpd
  have Ho2 := Lib.hid (hout.ext Hx.out)
  have Hob2 := Lib.hid (hob.ext Hx.out)
  have hB2 := Nat.le_trans hB Hx.out.size
  obtain ⟨M, hM2⟩ : ∃ M, M = us.length + 2 ^ d := ⟨_, rfl⟩
  rw [← hM2] at hM ⊢
  have HM := Lib.hid hM2
  have hum : us.length + 1 ≤ M := by omega
  obtain ⟨z, hz⟩ : ∃ z, z = k * k' := ⟨_, rfl⟩
  have hmi : (k : Int) * (k' : Int) = (z : Int) := by rw [hz, Int.natCast_mul]
  have hz2 : z ≤ 144 := by rw [hz]; exact Nat.le_trans (Nat.mul_le_mul (show k ≤ 12 by omega) (show k' ≤ 12 by omega)) (by decide)
  have hwz : IntKind.i64.wrap (z : Int) = (z : Int) := IntWalk.i64_in _ (by omega)
  have Hz := Lib.hid hz
  have ha0 := Ha.out.c0
  have ha1 := Ha.out.c1
  have hb0 := Hb.out.c0
  have hb1 := Hb.out.c1
  clear hk hk' hI hoa hob hout hapa hapb hpd hM2 hz
  by_cases hzn : z = n
  · subst hzn
    have HP : Hid (TileP z a ((z : Int), b)) := HI.out.hit (by rw [← Hk.out, ← Hk'.out, ← Hz.out])
    have hzb : ((z : Int) == (z : Int)) = true := by simp
    go_enter Tryz.func51, Tryz.ntmps51
    go_wp2_with (first | (at_builtin; refine wp_appendI (by simp) rfl (.tmp 29) (.tmp 31) rfl rfl rfl Ho2.out Hob2.out HP.out Hapb.out (by omega) hB2 ?_; intro v3 w3 hf; have Hf := Lib.hid (FO.of hf Hx.out hum); obtain ⟨v3', us3, e3, hL3, _, _, _⟩ := hf; cases e3; obtain ⟨A3, c3, rfl, _, _⟩ := hL3.form; clear hL3))
    go_ret
    exact Hf.out
  · obtain ⟨q, hq⟩ : ∃ q, q = n / k := ⟨_, rfl⟩
    have hdv : (n : Int) / (k : Int) = (q : Int) := by rw [← Int.natCast_ediv, ← hq]
    have hqn : q ≤ n := by rw [hq]; exact Nat.div_le_self _ _
    have hdw : IntKind.i64.wrap ((n : Int).tdiv (k : Int)) = (q : Int) := by
      rw [Int.tdiv_eq_ediv_of_nonneg (by omega), hdv]; exact IntWalk.i64_in _ (by omega)
    have hqw : IntKind.i64.wrap (q : Int) = (q : Int) := IntWalk.i64_in _ (by omega)
    have hk0 : ¬ k = 0 := by omega
    have Hlt : Hid (¬ ((k' : Int) + n - p < q) → p < n) := fun hc => HI.out.lt (q := q) (by rw [← Hk.out]; exact hq) (by rw [← Hk.out, ← Hk'.out, ← Hz.out]; exact hzn) (by rw [← Hk'.out]; exact hc)
    have hzb : ((z : Int) == (n : Int)) = false := by rw [beq_eq_false_iff_ne]; omega
    clear hq
    by_cases hc : (k' : Int) + n - p < q
    · go_enter Tryz.func51, Tryz.ntmps51
      go_wp2_with fail
      go_quiet (fail)
      go_wp2_with fail
      go_ret
      exact FO.same Ho.out (by omega) (below_drewN Hx.out _)
    · have hpn2 := Hlt.out hc
      go_enter Tryz.func51, Tryz.ntmps51
      go_wp2_with fail
      go_quiet (fail)
      obtain ⟨W, hW⟩ : ∃ W, W = ((w.alloc (.cells #[.int .i64 (n : Int), .slice A k c] 25)).alloc (.cells #[.int .i64 (n : Int), .slice A' k' c'] 25)).drewN nq := ⟨_, rfl⟩
      have HA : Hid (RVar W w.heap.size n (.slice A k c)) := by rw [hW]; exact Ha.out.drew _
      have HB : Hid (RVar W (w.heap.size + 1) n (.slice A' k' c')) := by rw [hW]; exact Hb.out.drew _
      have HO : Hid (RsI W B (.slice Ao us.length co) us (TileP n a)) := by rw [hW]; exact Ho2.out
      have HX : Hid (Ext w W) := by rw [hW]; exact below_drewN Hx.out _
      have hs : w.heap.size + 2 ≤ W.heap.size := HB.out.lt
      rw [← hW]
      clear hW ha0 ha1 hb0 hb1 Ho2 Hob2 Hx hB2
      have ha0 := HA.out.c0
      have hb1 := HB.out.c1
      go_upto_region 7 with fail
      go_cut [11] (fun s11 wx => ∃ (X : Nat) (v4 : Value), s11 = .pointer (some ⟨X, 0, none⟩) ∧ Hid (XMade W wx X n v4 (b ++ [(p : Int)])))
      case first =>
        clear ih Hlt HI Hoa Ho HO Hapa Hapb Hpd HM Hz hdv hdw hqw hwz hmi hzb hz2 h2 hM hum hn12 hka hkl hc hk0 hqn hzn hB
        go_region_held3 (fun w' => w'.cell? ⟨w.heap.size, 0, none⟩ = some (.int .i64 n) ∧ w'.cell? ⟨w.heap.size + 1, 1, none⟩ = some (.slice A' k' c'))
          (first
            | with_reducible exact ⟨(HA.out.ext hX4.out).c0, (HB.out.ext hX4.out).c1⟩
            | with_reducible exact ⟨(HA.out.ext hX3.out).c0, (HB.out.ext hX3.out).c1⟩
            | (refine ⟨(HA.out.ext ?_).c0, (HB.out.ext ?_).c1⟩ <;> ((repeat (first | exact hX4.out | apply Ext.dr | apply Ext.al | (refine Ext.st ?_ (by first | exact Nat.le_refl _ | exact Nat.le_succ _ | exact Nat.le_succ_of_le (Nat.le_succ _) | exact hz3 | exact Nat.le_succ_of_le hz3 | exact hz4 | fail)))); done))
            | (refine ⟨(HA.out.ext ?_).c0, (HB.out.ext ?_).c1⟩ <;> ((repeat (first | exact hX3.out | apply Ext.dr | apply Ext.al)); done))
            | (refine ⟨(HA.out.ext ?_).c0, (HB.out.ext ?_).c1⟩ <;> ((repeat (first | exact Below.refl _ _ | exact Ext.dr0 _ | apply Ext.dr | apply Ext.al)); done))
            | (go_keep; done))
          (first
            | (refine step_appendL (B := W.heap.size) rfl (.tmp 51) (.tmp 53) rfl rfl rfl (Own.emp (by simp only [RVt, heap_al, heap_dr, Array.getElem?_push, Array.size_push]; (first | exact if_pos rfl | exact if_pos trivial | (rw [if_neg (by omega)]; (first | exact if_pos rfl | exact if_pos trivial | (rw [if_neg (by omega)]; (first | exact if_pos rfl | exact if_pos trivial | fail)) | fail)) | fail)) (by omega)) ((Hob.out.ext HX.out).ints.ext (by (repeat (first | exact Below.refl _ _ | exact Ext.dr0 _ | apply Ext.dr | apply Ext.al)); done)) (by rw [List.length_nil]; have := Hk'.out; omega) (Below.size (B := W.heap.size) (w := W) (by (repeat (first | exact Below.refl _ _ | exact Ext.dr0 _ | apply Ext.dr | apply Ext.al)); done)) ?_; intro v3 w3 ho3 hg3 hb3 hat3; rw [List.nil_append] at ho3; obtain ⟨A3, n3, c3, rfl⟩ := ho3.form; have hX3 : Hid (Ext W w3) := Below.trans (by (repeat (first | exact Below.refl _ _ | exact Ext.dr0 _ | apply Ext.dr | apply Ext.al)); done) hb3)
            | (refine step_append1 (B := W.heap.size) rfl (.tmp 54) (.tmp 56) rfl rfl rfl (ho3.ext (by (repeat (first | exact Below.refl _ _ | exact Ext.dr0 _ | apply Ext.dr | apply Ext.al)); done)) (by first | exact cell_of_row _ _ 0 #[.int .i64 p] 3 (0, 0) (by simp only [RVt, heap_al, heap_dr, Array.getElem?_push, Array.size_push]; (first | exact if_pos rfl | exact if_pos trivial | (rw [if_neg (by omega)]; (first | exact if_pos rfl | exact if_pos trivial | (rw [if_neg (by omega)]; (first | exact if_pos rfl | exact if_pos trivial | fail)) | fail)) | fail)) | exact Ext.cell_of (w := w3) (by (repeat (first | exact Below.refl _ _ | exact Ext.dr0 _ | apply Ext.dr | apply Ext.al)); done) (hg3.cell (cell_of_row _ _ 0 #[.int .i64 p] 3 (0, 0) (by simp only [RVt, heap_al, heap_dr, Array.getElem?_push, Array.size_push]; (first | exact if_pos rfl | exact if_pos trivial | (rw [if_neg (by omega)]; (first | exact if_pos rfl | exact if_pos trivial | (rw [if_neg (by omega)]; (first | exact if_pos rfl | exact if_pos trivial | fail)) | fail)) | fail))) (by show ¬ (some _ : Option Nat) = some _; simp <;> omega))) (by unfold I64; omega) (by have := Hk'.out; omega) (Nat.le_trans hX3.out.size (Below.size (B := w3.heap.size) (w := w3) (by (repeat (first | exact Below.refl _ _ | exact Ext.dr0 _ | apply Ext.dr | apply Ext.al)); done))) ?_; intro v4 w4 ho4 hg4 hb4 hat4; obtain ⟨A4, n4, c4, rfl⟩ := ho4.form; have hz3 := hX3.out.size; have hX4 : Hid (Ext W w4) := Below.trans (Ext.tr hX3.out (by (repeat (first | exact Below.refl _ _ | exact Ext.dr0 _ | apply Ext.dr | apply Ext.al)); done)) hb4; have hz4 := hX4.out.size; (first | (have Nv : Hid (RVt w4 w3.heap.size 0 (.slice none 0 0)) := RVt.kept (w := _) (show RVt _ _ _ _ from (by simp only [RVt, heap_al, heap_dr, Array.getElem?_push, Array.size_push]; (first | exact if_pos rfl | exact if_pos trivial | (rw [if_neg (by omega)]; (first | exact if_pos rfl | exact if_pos trivial | (rw [if_neg (by omega)]; (first | exact if_pos rfl | exact if_pos trivial | fail)) | fail)) | fail))) hg4 (fun e => by have := (ho3.lt _ e).2; omega)) | (have Nv : Hid (RVt w4 (w3.heap.size + 1) 0 (.slice none 0 0)) := RVt.kept (w := _) (show RVt _ _ _ _ from (by simp only [RVt, heap_al, heap_dr, Array.getElem?_push, Array.size_push]; (first | exact if_pos rfl | exact if_pos trivial | (rw [if_neg (by omega)]; (first | exact if_pos rfl | exact if_pos trivial | (rw [if_neg (by omega)]; (first | exact if_pos rfl | exact if_pos trivial | fail)) | fail)) | fail))) hg4 (fun e => by have := (ho3.lt _ e).2; omega)) | (have Nv : Hid (RVt w4 W.heap.size 0 (.slice none 0 0)) := RVt.two (W := _) (show RVt _ _ _ _ from (by simp only [RVt, heap_al, heap_dr, Array.getElem?_push, Array.size_push]; (first | exact if_pos rfl | exact if_pos trivial | (rw [if_neg (by omega)]; (first | exact if_pos rfl | exact if_pos trivial | (rw [if_neg (by omega)]; (first | exact if_pos rfl | exact if_pos trivial | fail)) | fail)) | fail))) hg3 (by omega) (by (repeat (first | exact Below.refl _ _ | exact Ext.dr0 _ | apply Ext.dr | apply Ext.al)); done) hg4 hat3) | (have Nv : Hid (RVt w4 (W.heap.size + 1) 0 (.slice none 0 0)) := RVt.two (W := _) (show RVt _ _ _ _ from (by simp only [RVt, heap_al, heap_dr, Array.getElem?_push, Array.size_push]; (first | exact if_pos rfl | exact if_pos trivial | (rw [if_neg (by omega)]; (first | exact if_pos rfl | exact if_pos trivial | (rw [if_neg (by omega)]; (first | exact if_pos rfl | exact if_pos trivial | fail)) | fail)) | fail))) hg3 (by omega) (by (repeat (first | exact Below.refl _ _ | exact Ext.dr0 _ | apply Ext.dr | apply Ext.al)); done) hg4 hat3) | (have Nv : Hid (RVt w4 (W.heap.size + 1 + 1) 0 (.slice none 0 0)) := RVt.two (W := _) (show RVt _ _ _ _ from (by simp only [RVt, heap_al, heap_dr, Array.getElem?_push, Array.size_push]; (first | exact if_pos rfl | exact if_pos trivial | (rw [if_neg (by omega)]; (first | exact if_pos rfl | exact if_pos trivial | (rw [if_neg (by omega)]; (first | exact if_pos rfl | exact if_pos trivial | fail)) | fail)) | fail))) hg3 (by omega) (by (repeat (first | exact Below.refl _ _ | exact Ext.dr0 _ | apply Ext.dr | apply Ext.al)); done) hg4 hat3) | (have Nv : True := trivial)); (try (have he0 := Nv.out.rv.c0; have hf0 := Nv.out.rv.f 0; have he1 := (Nv.out.rv.set0 (m := (n : Int))).c1; have hf1 := (Nv.out.rv.set0 (m := (n : Int))).f 1))))
        all_goals
          go_wp2_with fail
          go_meet
          case rel =>
            refine ⟨_, .slice A4 n4 c4, rfl, ?_⟩
            unfold Hid XMade
            first
              | exact ⟨Nv.out.rv.set0.set1, (ho4.setv (ho4.ne_var Nv.out)).setv (ho4.ne_var Nv.out), Ext.st (Ext.st hX4.out (by first | exact Nat.le_refl _ | exact Nat.le_succ _ | exact Nat.le_succ_of_le (Nat.le_succ _) | exact hz3 | exact Nat.le_succ_of_le hz3 | exact hz4 | fail)) (by first | exact Nat.le_refl _ | exact Nat.le_succ _ | exact Nat.le_succ_of_le (Nat.le_succ _) | exact hz3 | exact Nat.le_succ_of_le hz3 | exact hz4 | fail)⟩
              | exact ⟨RVar.new _ _ _, ho4.ext (one_box _ _), Ext.al hX4.out⟩
      case rest =>
        obtain ⟨X, v4, rfl, hX⟩ := hcut
        obtain ⟨A4, m4, c4, rfl⟩ := hX.out.2.1.form
        have EX := Lib.hid hX.out.2.2
        have VX := Lib.hid hX.out.1
        have OX := Lib.hid hX.out.2.1
        have HOk := Lib.hid (HI.out.okx hpn2)
        have VA := Lib.hid (HA.out.ext EX.out)
        have VB := Lib.hid (HB.out.ext EX.out)
        have WX := Lib.hid (HX.out.tr EX.out)
        have OA := Lib.hid (Hoa.out.ext WX.out)
        have OB := Lib.hid (Hob.out.ext WX.out)
        have LO := Lib.hid (HO.out.ext EX.out)
        have AX : Hid (Apart (.slice A4 m4 c4) (.slice Ao us.length co)) := Apart.base OX.out fun k hk => (HO.out.lt k hk).2
        have Hol := Lib.hid fun k hk => (Ho.out.lt k hk).2
        have HBW : Hid (B ≤ W.heap.size) := Nat.le_trans hB HX.out.size
        have HB0 := Lib.hid hB
        clear ha0 hb1
        have hx0 := VX.out.c0
        have hx1 := VX.out.c1
        have ha0 := VA.out.c0
        have ha1 := VA.out.c1
        have hb0 := VB.out.c0
        have hb1 := VB.out.c1
        obtain ⟨dd, hdd⟩ : ∃ dd, d = dd + 1 := ⟨d - 1, by have := Hpd.out; omega⟩
        have h2p : 2 ^ d = 2 ^ dd + 2 ^ dd := by rw [hdd, Nat.pow_succ]; omega
        obtain ⟨p1, hp1⟩ : ∃ z, z = p + 1 := ⟨_, rfl⟩
        have HP2 : Hid (p1 + dd = n) := by have := Hpd.out; unfold Hid; omega
        have hpi : (p : Int) + 1 = (p1 : Int) := by omega
        have hp25 : p1 ≤ 13 := by omega
        have Hih : Hid (FindAt n a B dd) := ih dd (by omega)
        have hh2 : 1 ≤ 2 ^ dd := Nat.one_le_two_pow
        obtain ⟨f, hf⟩ : ∃ z, z = 2 ^ dd := ⟨_, rfl⟩
        rw [← hf] at h2p hh2
        have Hf2 := Lib.hid hf
        have HMd : Hid (M = us.length + (f + f)) := by have := HM.out; unfold Hid; omega
        have HMb : Hid (us.length + 2 ^ dd ≤ 100000) := by rw [← hf]; have := HMd.out; unfold Hid; omega
        have HM1 := Lib.hid hM
        have HP1 := Lib.hid hp1
        have Hpn := Lib.hid hpn2
        have hp0i : (0 : Int) ≤ (p : Int) := by omega
        clear ih h2p hdd Hpd HM hzb hmi hwz hdv hdw hqw hk0 Hlt hf hM hum hp1 h2 hpn
        clear hz2 hn12 hkb hkl hc hqn hzn Hz hB hpn2
        have tokA : True := trivial
        have tokB : True := trivial
        by_cases hle : Le1 n a (b ++ [(p : Int)])
        · have Htake : Hid (FI n p1 a (b ++ [(p : Int)])) := by rw [HP1.out]; exact HI.out.take Hpn.out hle
          have Hle := Lib.hid hle
          clear hle
          by_cases hp0 : p = 0
          · have hpz : ((p : Int) == 0) = true := by rw [beq_iff_eq]; omega
            clear hp0
            go_wp2_with (first | (go_at_call 64; refine (l09Between_c n a (b ++ [(p : Int)]) _ _ _ OA.out.ints OX.out.ints HI.out.oka HOk.out).mono ?_; rintro e w5 ⟨bb, rfl, hbb, hx5⟩; (obtain rfl := hbb.2 Hle.out; clear hbb; have VA5 := Lib.hid (VA.out.ext hx5); have VB5 := Lib.hid (VB.out.ext hx5); have VX5 := Lib.hid (VX.out.ext hx5); have OA5 := Lib.hid (OA.out.ext hx5); have OB5 := Lib.hid (OB.out.ext hx5); have OX5 := Lib.hid (OX.out.ext hx5); have LO5 := Lib.hid (LO.out.ext hx5); have WX5 := Lib.hid (WX.out.tr hx5); have HB5 : Hid (B ≤ w5.heap.size) := Nat.le_trans HB0.out WX5.out.size; clear hx0 hx1 ha0 ha1 hb0 hb1; have hc0 := VA5.out.c0; have hc1 := VA5.out.c1; have hd0 := VB5.out.c0; have hd1 := VB5.out.c1; have he0 := VX5.out.c0; have he1 := VX5.out.c1)) | (go_at_call 51; clear tokA; refine (Hih.out p1 (b ++ [(p : Int)]) _ _ _ _ us HP2.out Htake.out OA5.out (OX5.out.base HBW.out) LO5.out Hapa.out AX.out HMb.out HB5.out).mono ?_; rintro e w6 hf6; have Hf := Lib.hid (FO.of (M' := M) hf6 WX5.out (by rw [HMd.out, ← Hf2.out]; omega)); obtain ⟨v6, us6, e6, hL6, _, _, _⟩ := hf6; cases e6; obtain ⟨A6, c6, rfl, _, _⟩ := hL6.form; clear hL6))
            go_ret
            exact Hf.out
          · have hpz : ((p : Int) == 0) = false := by rw [beq_eq_false_iff_ne]; omega
            have Hskip : Hid (FI n p1 a b) := by rw [HP1.out]; exact HI.out.skip (by omega) Hpn.out
            clear hp0
            go_wp2_with (first | (go_at_call 64; refine (l09Between_c n a (b ++ [(p : Int)]) _ _ _ OA.out.ints OX.out.ints HI.out.oka HOk.out).mono ?_; rintro e w5 ⟨bb, rfl, hbb, hx5⟩; (obtain rfl := hbb.2 Hle.out; clear hbb; have VA5 := Lib.hid (VA.out.ext hx5); have VB5 := Lib.hid (VB.out.ext hx5); have VX5 := Lib.hid (VX.out.ext hx5); have OA5 := Lib.hid (OA.out.ext hx5); have OB5 := Lib.hid (OB.out.ext hx5); have OX5 := Lib.hid (OX.out.ext hx5); have LO5 := Lib.hid (LO.out.ext hx5); have WX5 := Lib.hid (WX.out.tr hx5); have HB5 : Hid (B ≤ w5.heap.size) := Nat.le_trans HB0.out WX5.out.size; clear hx0 hx1 ha0 ha1 hb0 hb1; have hc0 := VA5.out.c0; have hc1 := VA5.out.c1; have hd0 := VB5.out.c0; have hd1 := VB5.out.c1; have he0 := VX5.out.c0; have he1 := VX5.out.c1)) | (go_at_call 51; clear tokA; refine (Hih.out p1 (b ++ [(p : Int)]) _ _ _ _ us HP2.out Htake.out OA5.out (OX5.out.base HBW.out) LO5.out Hapa.out AX.out HMb.out HB5.out).mono ?_; rintro e w6 hf6; obtain ⟨v6, us6, e6, hL6, hM6, hg6, hat6⟩ := hf6; cases e6; obtain ⟨A6, c6, rfl, _, _⟩ := hL6.form; have HL6 := Lib.hid hL6; have VA6 := Lib.hid (VA5.out.kept hg6 (fun e => by have := Hol.out _ e; omega)); have VB6 := Lib.hid (VB5.out.kept hg6 (fun e => by have := Hol.out _ e; omega)); have OA6 := Lib.hid (OA5.out.kept hg6 Hapa.out); have OB6 := Lib.hid (OB5.out.kept hg6 Hapb.out); have PA6 := Lib.hid (Apart.later Hapa.out (fun k hk => (OA5.out.lt k hk).2) hat6); have PB6 := Lib.hid (Apart.later Hapb.out (fun k hk => (OB5.out.lt k hk).2) hat6); have HB6 : Hid (B ≤ w6.heap.size) := Nat.le_trans HB5.out hg6.size; have Hg6 := Lib.hid (grownBy_tr (grownBy_of_ext WX5.out _) hg6); have Hat6 := Lib.hid (fun k hk => (hat6 k hk).imp id (Nat.le_trans WX5.out.size)); have Hm6 := Lib.hid hM6; have HMc : Hid (us6.length + 2 ^ dd ≤ 100000) := (by have := HM1.out; have := HMd.out; have := Hf2.out; unfold Hid; omega); clear hL6 hM6 hg6 hat6 hc0 hc1 hd0 hd1 he0 he1; have hc0 := VA6.out.c0; have hc1 := VA6.out.c1; have hd0 := VB6.out.c0; have hd1 := VB6.out.c1) | (go_at_call 51; clear tokB; refine (Hih.out p1 b _ _ _ _ us6 HP2.out Hskip.out OA6.out OB6.out HL6.out PA6.out PB6.out HMc.out HB6.out).mono ?_; rintro e w7 hf7; have Hf := Lib.hid (FO.tr (M' := M) Hg6.out Hat6.out (Below.refl _ _) hf7 (by have := Hm6.out; have := HMd.out; have := Hf2.out; omega)); obtain ⟨v7, us7, e7, hL7, _, _, _⟩ := hf7; cases e7; obtain ⟨A7, c7, rfl, _, _⟩ := hL7.form; clear hL7))
            go_ret
            exact Hf.out
        · have Hle := Lib.hid hle
          clear hle
          have HMs : Hid (us.length ≤ M) := by have := HMd.out; unfold Hid; omega
          by_cases hp0 : p = 0
          · have hpz : ((p : Int) == 0) = true := by rw [beq_iff_eq]; omega
            clear hp0
            go_wp2_with (first | (go_at_call 64; refine (l09Between_c n a (b ++ [(p : Int)]) _ _ _ OA.out.ints OX.out.ints HI.out.oka HOk.out).mono ?_; rintro e w5 ⟨bb, rfl, hbb, hx5⟩; (obtain rfl := bool_f hbb Hle.out; clear hbb; have VA5 := Lib.hid (VA.out.ext hx5); have VB5 := Lib.hid (VB.out.ext hx5); have VX5 := Lib.hid (VX.out.ext hx5); have OA5 := Lib.hid (OA.out.ext hx5); have OB5 := Lib.hid (OB.out.ext hx5); have OX5 := Lib.hid (OX.out.ext hx5); have LO5 := Lib.hid (LO.out.ext hx5); have WX5 := Lib.hid (WX.out.tr hx5); have HB5 : Hid (B ≤ w5.heap.size) := Nat.le_trans HB0.out WX5.out.size; clear hx0 hx1 ha0 ha1 hb0 hb1; have hc0 := VA5.out.c0; have hc1 := VA5.out.c1; have hd0 := VB5.out.c0; have hd1 := VB5.out.c1; have he0 := VX5.out.c0; have he1 := VX5.out.c1)))
            go_ret
            exact FO.same Ho.out HMs.out WX5.out
          · have hpz : ((p : Int) == 0) = false := by rw [beq_eq_false_iff_ne]; omega
            have Hskip : Hid (FI n p1 a b) := by rw [HP1.out]; exact HI.out.skip (by omega) Hpn.out
            clear hp0
            go_wp2_with (first | (go_at_call 64; refine (l09Between_c n a (b ++ [(p : Int)]) _ _ _ OA.out.ints OX.out.ints HI.out.oka HOk.out).mono ?_; rintro e w5 ⟨bb, rfl, hbb, hx5⟩; (obtain rfl := bool_f hbb Hle.out; clear hbb; have VA5 := Lib.hid (VA.out.ext hx5); have VB5 := Lib.hid (VB.out.ext hx5); have VX5 := Lib.hid (VX.out.ext hx5); have OA5 := Lib.hid (OA.out.ext hx5); have OB5 := Lib.hid (OB.out.ext hx5); have OX5 := Lib.hid (OX.out.ext hx5); have LO5 := Lib.hid (LO.out.ext hx5); have WX5 := Lib.hid (WX.out.tr hx5); have HB5 : Hid (B ≤ w5.heap.size) := Nat.le_trans HB0.out WX5.out.size; clear hx0 hx1 ha0 ha1 hb0 hb1; have hc0 := VA5.out.c0; have hc1 := VA5.out.c1; have hd0 := VB5.out.c0; have hd1 := VB5.out.c1; have he0 := VX5.out.c0; have he1 := VX5.out.c1)) | (go_at_call 51; clear tokA; refine (Hih.out p1 b _ _ _ _ us HP2.out Hskip.out OA5.out OB5.out LO5.out Hapa.out Hapb.out HMb.out HB5.out).mono ?_; rintro e w6 hf6; have Hf := Lib.hid (FO.of (M' := M) hf6 WX5.out (by rw [HMd.out, ← Hf2.out]; omega)); obtain ⟨v6, us6, e6, hL6, _, _, _⟩ := hf6; cases e6; obtain ⟨A6, c6, rfl, _, _⟩ := hL6.form; clear hL6))
            go_ret
            exact Hf.out
theorem l09Find_c (n : Nat) (a : List Int) (B d : Nat) : FindAt n a B d := by
  induction d using Nat.strongRecOn with
  | _ d ih => exact l09Find_s n a B d ih
end Go.Proofs.YtjecdmlojgmbeaaGreatDoor
