/- Contracts: l09Tile, MakeTile: a tiling that is drawn. -/
import Derived.Test.YtjecdmlojgmbeaaGreatDoorFpn
import Derived.Test.YtjecdmlojgmbeaaGreatDoorFbw
import Derived.Test.YtjecdmlojgmbeaaGreatDoorTilF
import Derived.Deep.RegionHeld3
namespace Go.Proofs.YtjecdmlojgmbeaaGreatDoor
open Go.RowKit
theorem Own.lits (w : World) (l : List Int) {B : Nat} (hB : B ≤ w.heap.size) (hl : l.length ≤ 1000) (hr : ∀ x ∈ l, I64 x) : Own (w.alloc (.cells (l.map (Value.int .i64)).toArray 3)) B (.slice (some ⟨w.heap.size, 0, none⟩) l.length l.length) l := by
  have h := World.ownsRow_lit (e := 3) (size := 1) w (l.map (Value.int .i64)).toArray l.length hB (by unfold maxLen; omega) (by simp)
  exact ⟨by simpa using h, hr⟩
theorem RsI.keptB {w w' : World} {B b : Nat} {v : Value} {us : List (Int × Value)} {P : Int × List Int → Prop} (h : RsI w B v us P) (hg : w.grownBy w' (some b)) (hb : b < B) : RsI w' B v us P :=
  ⟨h.1.kept hg (.inr fun e => by have := (h.1.lt b e).1; omega), fun p hp => by obtain ⟨h1, l, h2, h3⟩ := h.2 p hp; exact ⟨h1, l, h2, h3.kept hg (.inr (h3.ne_lt hb))⟩⟩
/-- every cell of such a row, by its number -/
theorem RsI.all {w : World} {B g k c m n : Nat} {us : List (Int × Value)} {r : List Int} (h : RsI w B (.slice (some ⟨g, 0, none⟩) k c) us (TileP n r)) (hm : m = us.length) {sv : Nat → Value} (hsv : sv = fun i => (us.getD i (0, .slice none 0 0)).2) :
    (∀ i : Nat, i < m → w.cell? ⟨g, i * 2, none⟩ = some (.int .i64 (n : Int))) ∧ ∀ i : Nat, i < m → w.cell? ⟨g, i * 2 + 1, none⟩ = some (sv i) := by
  have hp : ∀ i : Nat, i < m → us[i]? = some (us.getD i (0, .slice none 0 0)) := fun i hi => by
    rw [List.getD_eq_getElem?_getD, List.getElem?_eq_getElem (by omega)]; rfl
  refine ⟨fun i hi => ?_, fun i hi => ?_⟩
  · have h1 := (h.cell (hp i hi)).1
    obtain ⟨_, l', h2, _⟩ := h.2 _ (List.mem_of_getElem? (hp i hi))
    have h3 : (us.getD i (0, .slice none 0 0)).1 = (n : Int) := h2.1
    rw [h3] at h1
    exact h1
  · rw [hsv]
    exact (h.cell (hp i hi)).2
/-- the world while a tiling is sought: the cursor in block b, the results' variables behind w -/
structure TI (w0 w wr : World) (b : Nat) (v : Value) (len : Nat) : Prop where
  cur : Cur w0 wr b v len
  r1 : RVar wr w.heap.size 0 (.slice none 0 0)
  r2 : RVar wr (w.heap.size + 1) 0 (.slice none 0 0)
  gr : w.grownBy wr (some b)
  lt : b < w.heap.size
theorem TI.step {w0 w wr w' : World} {b : Nat} {v : Value} {len : Nat} (h : TI w0 w wr b v len) (hc : Cur w0 w' b v len) (hg : wr.grownBy w' (some b)) : TI w0 w w' b v len :=
  ⟨hc, h.r1.kept hg (by have := h.lt; simp; omega), h.r2.kept hg (by have := h.lt; simp; omega), grownBy_tr h.gr hg, h.lt⟩
theorem TI.ext {w0 w wr w' : World} {b : Nat} {v : Value} {len : Nat} (h : TI w0 w wr b v len) (hx : Ext wr w') : TI w0 w w' b v len :=
  h.step (h.cur.ext hx) (grownBy_of_ext hx _)
/-- what a drawn tiling leaves -/
def TilePost (w0 w : World) (b : Nat) (v : Value) (len : Nat) (e : Ending) (w' : World) : Prop :=
  ∃ (n : Nat) (a c : List Int) (u t : Value), n ≤ 12 ∧ TilOk n a c ∧ c[0]? = some 0 ∧ e = .returned (.tuple #[.agg #[.int .i64 n, u], .agg #[.int .i64 n, t]]) ∧ Own w' (b + 1) u a ∧ Own w' (b + 1) t c ∧ Cur w0 w' b v len ∧ w.grownBy w' (some b)
/-- two rhythms move into the results' variables -/
theorem TI.fin {w0 w wr : World} {b B : Nat} {v u t : Value} {len : Nat} {n m : Int} {l r : List Int} (h : TI w0 w wr b v len) (ho : Own wr B u l) (hp : Own wr B t r) (hB : w.heap.size + 2 ≤ B) :
    RVar ((((wr.setCell ⟨w.heap.size, 0, none⟩ (.int .i64 n)).setCell ⟨w.heap.size, 1, none⟩ u).setCell ⟨w.heap.size + 1, 0, none⟩ (.int .i64 m)).setCell ⟨w.heap.size + 1, 1, none⟩ t) w.heap.size n u ∧
    RVar ((((wr.setCell ⟨w.heap.size, 0, none⟩ (.int .i64 n)).setCell ⟨w.heap.size, 1, none⟩ u).setCell ⟨w.heap.size + 1, 0, none⟩ (.int .i64 m)).setCell ⟨w.heap.size + 1, 1, none⟩ t) (w.heap.size + 1) m t ∧
    Own ((((wr.setCell ⟨w.heap.size, 0, none⟩ (.int .i64 n)).setCell ⟨w.heap.size, 1, none⟩ u).setCell ⟨w.heap.size + 1, 0, none⟩ (.int .i64 m)).setCell ⟨w.heap.size + 1, 1, none⟩ t) (b + 1) u l ∧
    Own ((((wr.setCell ⟨w.heap.size, 0, none⟩ (.int .i64 n)).setCell ⟨w.heap.size, 1, none⟩ u).setCell ⟨w.heap.size + 1, 0, none⟩ (.int .i64 m)).setCell ⟨w.heap.size + 1, 1, none⟩ t) (b + 1) t r ∧
    Cur w0 ((((wr.setCell ⟨w.heap.size, 0, none⟩ (.int .i64 n)).setCell ⟨w.heap.size, 1, none⟩ u).setCell ⟨w.heap.size + 1, 0, none⟩ (.int .i64 m)).setCell ⟨w.heap.size + 1, 1, none⟩ t) b v len ∧
    w.grownBy ((((wr.setCell ⟨w.heap.size, 0, none⟩ (.int .i64 n)).setCell ⟨w.heap.size, 1, none⟩ u).setCell ⟨w.heap.size + 1, 0, none⟩ (.int .i64 m)).setCell ⟨w.heap.size + 1, 1, none⟩ t) (some b) := by
  have hne : w.heap.size ≠ w.heap.size + 1 := by omega
  have hlt := h.lt
  have hb1 : b + 1 ≤ B := by omega
  refine ⟨((h.r1.set0.set1).other hne).other hne, ((h.r2.other (fun e => hne e.symm)).other (fun e => hne e.symm)).set0.set1, ((((ho.other (by omega)).other (by omega)).other (by omega)).other (by omega)).base hb1, ((((hp.other (by omega)).other (by omega)).other (by omega)).other (by omega)).base hb1, ?_, ?_⟩
  · have h0 := h.cur.1.size
    have h1 := h.cur.2.1
    have h2 : w0.heap.size ≤ w.heap.size := by omega
    have s1 := h.cur.kept (grownBy_set wr w.heap.size 0 (.int .i64 n)) (fun k hk => by cases hk; omega)
    have s2 := s1.kept (grownBy_set _ w.heap.size 1 u) (fun k hk => by cases hk; omega)
    have s3 := s2.kept (grownBy_set _ (w.heap.size + 1) 0 (.int .i64 m)) (fun k hk => by cases hk; omega)
    exact s3.kept (grownBy_set _ (w.heap.size + 1) 1 t) (fun k hk => by cases hk; omega)
  · have far : ∀ (x : World) (g k : Nat) (y : Value), w.heap.size ≤ g → w.grownBy x (some b) → w.grownBy (x.setCell ⟨g, k, none⟩ y) (some b) := fun x g k y hg hx => by
      have h1 := grownBy_set x g k y
      refine ⟨h1.os.trans hx.os, h1.tape.trans hx.tape, h1.output.trans hx.output, Nat.le_trans hx.size h1.size, fun i hi hn => ?_⟩
      rw [h1.block i (by have := hx.size; omega) (by simp; omega), hx.block i hi hn]
    exact far _ _ _ _ (by omega) (far _ _ _ _ (by omega) (far _ _ _ _ (by omega) (far _ _ _ _ (by omega) h.gr)))
theorem fin2 {w wr : World} {n m n0 m0 : Int} {u0 u1 v u : Value} {l r : List Int} (h1 : RVar wr w.heap.size n0 u0) (h2 : RVar wr (w.heap.size + 1) m0 u1) (ho : Own wr (w.heap.size + 2) v l) (hp : Own wr (w.heap.size + 2) u r) (hx : Ext w wr) :
    RVar ((((wr.setCell ⟨w.heap.size, 0, none⟩ (.int .i64 n)).setCell ⟨w.heap.size, 1, none⟩ v).setCell ⟨w.heap.size + 1, 0, none⟩ (.int .i64 m)).setCell ⟨w.heap.size + 1, 1, none⟩ u) w.heap.size n v ∧
    RVar ((((wr.setCell ⟨w.heap.size, 0, none⟩ (.int .i64 n)).setCell ⟨w.heap.size, 1, none⟩ v).setCell ⟨w.heap.size + 1, 0, none⟩ (.int .i64 m)).setCell ⟨w.heap.size + 1, 1, none⟩ u) (w.heap.size + 1) m u ∧
    Own ((((wr.setCell ⟨w.heap.size, 0, none⟩ (.int .i64 n)).setCell ⟨w.heap.size, 1, none⟩ v).setCell ⟨w.heap.size + 1, 0, none⟩ (.int .i64 m)).setCell ⟨w.heap.size + 1, 1, none⟩ u) w.heap.size v l ∧
    Own ((((wr.setCell ⟨w.heap.size, 0, none⟩ (.int .i64 n)).setCell ⟨w.heap.size, 1, none⟩ v).setCell ⟨w.heap.size + 1, 0, none⟩ (.int .i64 m)).setCell ⟨w.heap.size + 1, 1, none⟩ u) w.heap.size u r ∧
    Ext w ((((wr.setCell ⟨w.heap.size, 0, none⟩ (.int .i64 n)).setCell ⟨w.heap.size, 1, none⟩ v).setCell ⟨w.heap.size + 1, 0, none⟩ (.int .i64 m)).setCell ⟨w.heap.size + 1, 1, none⟩ u) := by
  have hne : w.heap.size ≠ w.heap.size + 1 := by omega
  exact ⟨((h1.set0.set1).other hne).other hne, ((h2.other (fun e => hne e.symm)).other (fun e => hne e.symm)).set0.set1, ((((ho.other (by omega)).other (by omega)).other (by omega)).other (by omega)).base (by omega), ((((hp.other (by omega)).other (by omega)).other (by omega)).other (by omega)).base (by omega), Ext.st (Ext.st (Ext.st (Ext.st hx (Nat.le_refl _)) (Nat.le_refl _)) (by omega)) (by omega)⟩
set_option maxRecDepth 100000 in
set_option maxHeartbeats 4000000 in
theorem l09Tile_c (l : List Int) (v : Value) (w0 w : World) (b : Nat) (hv : Byts w0 v l) (hc : Cur w0 w b v l.length) : Calls Tryz.prog 21 #[.pointer (some ⟨b, 0, none⟩)] w (TilePost w0 w b v l.length) := by
  have Hv := Lib.hid hv
  have hbl : b < w.heap.size := by obtain ⟨_, _, _, _, _, h⟩ := hc; exact h.lt
  have hx1 := one_box w (.cells #[.int .i64 0, .slice none 0 0] 25)
  have hx2 := one_box (w.alloc (.cells #[.int .i64 0, .slice none 0 0] 25)) (.cells #[.int .i64 0, .slice none 0 0] 25)
  have ha := (RVar.new (T := 25) w 0 (.slice none 0 0)).ext hx2
  have hb : RVar ((w.alloc (.cells #[.int .i64 0, .slice none 0 0] 25)).alloc (.cells #[.int .i64 0, .slice none 0 0] 25)) (w.heap.size + 1) 0 (.slice none 0 0) := by
    simpa only [World.size_alloc] using RVar.new (T := 25) (w.alloc (.cells #[.int .i64 0, .slice none 0 0] 25)) 0 (.slice none 0 0)
  have ht0 : TI w0 w ((w.alloc (.cells #[.int .i64 0, .slice none 0 0] 25)).alloc (.cells #[.int .i64 0, .slice none 0 0] 25)) b v l.length := ⟨hc.ext (hx1.tr hx2), ha, hb, grownBy_of_ext (hx1.tr hx2) _, hbl⟩
  have hol := Own.lits ((w.alloc (.cells #[.int .i64 0, .slice none 0 0] 25)).alloc (.cells #[.int .i64 0, .slice none 0 0] 25)) [1, 2, 4, 6, 8, 9, 12] (B := b + 1) (by simp only [World.size_alloc]; omega) (by decide) (fun x hx => by simp only [List.mem_cons, List.not_mem_nil, or_false] at hx; unfold I64; omega)
  have T1 := Lib.hid (ht0.ext (one_box _ (.cells #[.int .i64 1, .int .i64 2, .int .i64 4, .int .i64 6, .int .i64 8, .int .i64 9, .int .i64 12] 3)))
  have O1 : Hid (Own (((w.alloc (.cells #[.int .i64 0, .slice none 0 0] 25)).alloc (.cells #[.int .i64 0, .slice none 0 0] 25)).alloc (.cells #[.int .i64 1, .int .i64 2, .int .i64 4, .int .i64 6, .int .i64 8, .int .i64 9, .int .i64 12] 3)) (b + 1) (.slice (some ⟨w.heap.size + 1 + 1, 0, none⟩) 7 7) [1, 2, 4, 6, 8, 9, 12]) := by
    have e : ((w.alloc (.cells #[.int .i64 0, .slice none 0 0] 25)).alloc (.cells #[.int .i64 0, .slice none 0 0] 25)).heap.size = w.heap.size + 1 + 1 := by simp only [World.size_alloc]
    rw [e] at hol
    exact hol
  clear hv hc hx1 hx2 ha hb ht0 hol
  have Hbl := Lib.hid hbl
  clear hbl
  go_enter Tryz.func21, Tryz.ntmps21
  go_wp2_with (first | (go_at_call 36; refine (l01Pick_c l [1, 2, 4, 6, 8, 9, 12] _ _ _ _ _ Hv.out T1.out.cur O1.out (by decide)).mono ?_; rintro e w4 ⟨x, hmx, rfl, hcw4, hgw4⟩; (obtain ⟨n, rfl, hn⟩ : ∃ n : Nat, x = (n : Int) ∧ 1 ≤ n ∧ n ≤ 12 := (by simp only [List.mem_cons, List.not_mem_nil, or_false] at hmx; exact ⟨x.toNat, by omega, by omega, by omega⟩); clear hmx; have T4 := Lib.hid (T1.out.step hcw4 hgw4); clear hcw4 hgw4)))
  go_loopw [5] (fun i wr => ∃ j : Nat, j ≤ 6 ∧ i = .int .i64 j ∧ Hid (TI w0 w wr b v l.length)) (fun i _ => 6 - (intOf i).toNat)
  case atStart => exact ⟨0, Nat.zero_le _, rfl, T4.out⟩
  case round =>
    obtain ⟨j, hj, rfl, hr⟩ := hrel
    by_cases hj6 : j < 6
    · have hji : (j : Int) < 6 := by omega
      have tokA : True := trivial
      have tokB : True := trivial
      have tokC : True := trivial
      go_wp2_with (first | (go_at_call 38; clear tokA; refine (l01Below_c l n _ _ _ _ Hv.out hr.out.cur (by omega)).mono ?_; rintro e w5 ⟨x, hlx, rfl, hcw5, hgw5⟩; have T5 := Lib.hid (hr.out.step hcw5 hgw5); clear hcw5 hgw5) | (go_at_call 38; clear tokB; refine (l01Below_c l n _ _ _ _ Hv.out T5.out.cur (by omega)).mono ?_; rintro e w6 ⟨y, hly, rfl, hcw6, hgw6⟩; have T6 := Lib.hid (T5.out.step hcw6 hgw6); clear hcw6 hgw6) | (go_at_call 38; clear tokC; refine (l01Below_c l n _ _ _ _ Hv.out T6.out.cur (by omega)).mono ?_; rintro e w7 ⟨z, hlz, rfl, hcw7, hgw7⟩; have T7 := Lib.hid (T6.out.step hcw7 hgw7); clear hcw7 hgw7; have O7 : Hid (Own (w7.alloc (.cells #[.int .i64 0, .int .i64 (x : Int), .int .i64 (y : Int), .int .i64 (z : Int)] 3)) w7.heap.size (.slice (some ⟨w7.heap.size, 0, none⟩) 4 4) [0, (x : Int), (y : Int), (z : Int)]) := (Own.lits w7 [0, (x : Int), (y : Int), (z : Int)] (Nat.le_refl _) (by simp) (fun q hq => by simp only [List.mem_cons, List.not_mem_nil, or_false] at hq; unfold I64; omega)); have X7 := Lib.hid (one_box w7 (.cells #[.int .i64 0, .int .i64 (x : Int), .int .i64 (y : Int), .int .i64 (z : Int)] 3))) | (go_at_call 37; refine (l02Of_c n [0, (x : Int), (y : Int), (z : Int)] _ _ O7.out.ints (by omega)).mono ?_; rintro e w8 ⟨v8, rfl, ho8, hx8⟩; (obtain ⟨r, hre⟩ : ∃ r, r = rhL n [0, (x : Int), (y : Int), (z : Int)] := ⟨_, rfl⟩; rw [← hre] at ho8; have Rok : Hid (RhyOk n r) := (by rw [hre]; exact ⟨by omega, rhL_inc _ _, fun x hx => (mem_rhL.1 hx).1⟩); have hr0 : (0 : Int) ∈ r := (by rw [hre, mem_rhL]; exact ⟨by omega, by simp⟩); have hr1 := List.length_pos_of_mem hr0; clear hr0 hre; obtain ⟨A8, c8, hv8, _, _⟩ := ho8.slice; obtain ⟨k, hk⟩ : ∃ k, k = r.length := ⟨_, rfl⟩; rw [← hk] at hv8 hr1; subst hv8; have Hk := Lib.hid hk; obtain ⟨B8, hB8⟩ : ∃ B, B = (w7.alloc (.cells #[.int .i64 0, .int .i64 (x : Int), .int .i64 (y : Int), .int .i64 (z : Int)] 3)).heap.size := ⟨_, rfl⟩; have hB82 : w.heap.size + 2 ≤ B8 ∧ B8 ≤ w8.heap.size := (by have h1 := T7.out.r2.lt; have h2 := X7.out.size; have h3 := hx8.size; omega); have O8 := Lib.hid (hB8 ▸ ho8); have T8 := Lib.hid (T7.out.ext (X7.out.tr hx8)); clear hB8 ho8 hx8 hk; have R9 := Lib.hid (RVar.new (T := 25) w8 (n : Int) (.slice A8 k c8)); have X9 := Lib.hid (one_box w8 (.cells #[.int .i64 (n : Int), .slice A8 k c8] 25)); have O9 := Lib.hid (O8.out.ext X9.out); have T9 := Lib.hid (T8.out.ext X9.out); have hB9 : B8 ≤ (w8.alloc (.cells #[.int .i64 (n : Int), .slice A8 k c8] 25)).heap.size := Nat.le_trans hB82.2 X9.out.size; have hc0 := R9.out.c0; have hc1 := R9.out.c1; have hk00 : ¬ k = 0 := (by omega); have hk0i : (1 : Int) ≤ (k : Int) := (by omega); obtain ⟨q, hq⟩ : ∃ q, q = n % k := ⟨_, rfl⟩; have hmi : (n : Int) % (k : Int) = (q : Int) := (by rw [hq, Int.natCast_emod]); have Hq := Lib.hid hq; clear hq; obtain ⟨bz, hbz⟩ : ∃ bz, ((q : Int) == 0) = bz := ⟨_, rfl⟩; have Hbz : Hid (bz = true → n % k = 0) := (fun e => by rw [e, beq_iff_eq] at hbz; rw [← Hq.out]; omega); have hmz : ((n : Int) % (k : Int) == 0) = bz := (by rw [hmi, hbz]); cases bz)) | (go_at_call 39; refine (partnersOf_c n r _ _ _ O9.out Rok.out hn.2 (by rw [← Hk.out]; exact hr1) (by rw [← Hk.out]; exact Hbz.out (by first | rfl | trivial)) hB9).mono ?_; rintro e w10 ⟨vw10, usw10, rfl, hRw10, hmw10, hxw10⟩; (have T10 := Lib.hid (T9.out.ext hxw10); have R10 := Lib.hid (R9.out.ext hxw10); have O10 := Lib.hid (O9.out.ext hxw10); obtain ⟨A10, c10, rfl, _, _⟩ := hRw10.form; have L10 := Lib.hid hRw10; obtain ⟨m, hm⟩ : ∃ m, m = usw10.length := ⟨_, rfl⟩; rw [← hm] at hmw10 ⊢; have Hm := Lib.hid hm; clear hm hc0 hc1; have hd0 := R10.out.c0; have hd1 := R10.out.c1; by_cases hul : 0 < (m : Int))))

      · go_roundw
        case rel => exact ⟨j + 1, by omega, by go_num, T9.out⟩
        case measure => simp [intOf]; omega
      · obtain ⟨g, cg, hg, hgB, hgl, _⟩ := L10.out.shape (by rw [← Hm.out]; omega)
        simp only [Value.slice.injEq] at hg
        obtain ⟨rfl, _, rfl⟩ := hg
        have hm0 : 1 ≤ m ∧ m ≤ 4096 := by omega
        have hbl := Hbl.out
        have hb8 : b < B8 := by omega
        have hne : w.heap.size + 1 ≠ w.heap.size := by omega
        obtain ⟨sv, hsv⟩ : ∃ f : Nat → Value, f = fun i => (usw10.getD i (0, .slice none 0 0)).2 := ⟨_, rfl⟩
        have Hsv := Lib.hid hsv
        clear hsv
        have ⟨hq0, hq1⟩ := L10.out.all Hm.out Hsv.out
        have hr0 : w10.drew.cell? ⟨w8.heap.size, 0, none⟩ = some (.int .i64 n) := hd0
        have hr1 : w10.drew.cell? ⟨w8.heap.size, 1, none⟩ = some (.slice A8 k c8) := hd1
        have hr2 : ∀ i : Nat, i < m → w10.drew.cell? ⟨g, i * 2, none⟩ = some (.int .i64 (n : Int)) := hq0
        have hr3 : ∀ i : Nat, i < m → w10.drew.cell? ⟨g, i * 2 + 1, none⟩ = some (sv i) := hq1
        clear hq0 hq1
        go_region_held3 (fun w' => w'.cell? ⟨w8.heap.size, 0, none⟩ = some (.int .i64 n) ∧ w'.cell? ⟨w8.heap.size, 1, none⟩ = some (.slice A8 k c8) ∧ (∀ i : Nat, i < m → w'.cell? ⟨g, i * 2, none⟩ = some (.int .i64 (n : Int))) ∧ ∀ i : Nat, i < m → w'.cell? ⟨g, i * 2 + 1, none⟩ = some (sv i))
          (first
            | with_reducible exact ⟨hr0, hr1, hr2, hr3⟩
            | with_reducible exact ⟨he0, he1, (L11.out.all Hm.out Hsv.out).1, (L11.out.all Hm.out Hsv.out).2⟩
            | with_reducible exact ⟨hs0, hs1, (L12.out.all Hm.out Hsv.out).1, (L12.out.all Hm.out Hsv.out).2⟩
            | with_reducible exact ⟨hs2, hs3, (L13.out.all Hm.out Hsv.out).1, (L13.out.all Hm.out Hsv.out).2⟩
            | (go_keep; done))
          (first | (go_at_call 38; refine (l01BelowA_c l m _ _ _ _ Hv.out (T10.out.cur.ext (Ext.dr0 _)) (by omega)).mono ?_; rintro e w11 ⟨y2, hly2, rfl, hcw11, hgw11⟩; have hg11 := grownBy_tr (grownBy_drew w10 (some b)) hgw11; have T11 := Lib.hid (T10.out.step hcw11 hg11); have L11 := Lib.hid (L10.out.keptB hg11 hb8); have R11 := Lib.hid (R10.out.kept hg11 (by simp; omega)); have O11 := Lib.hid (O10.out.kept hg11 (.inr (O10.out.ne_lt hb8))); obtain ⟨⟨p1, p2⟩, hpe⟩ : ∃ p, usw10[y2]? = some p := ⟨_, List.getElem?_eq_getElem (by rw [← Hm.out]; exact hly2)⟩; obtain ⟨_, lc, ⟨hpn, htil, hl0⟩, how⟩ := L11.out.2 _ (List.mem_of_getElem? hpe); obtain ⟨Ac, nc, cc, hpc⟩ := how.form; obtain rfl : p1 = (n : Int) := hpn; obtain rfl : p2 = .slice Ac nc cc := hpc; have hsy : sv y2 = .slice Ac nc cc := (by rw [Hsv.out]; simp only [List.getD_eq_getElem?_getD, hpe, Option.getD_some]); have P11 := Lib.hid how; have Htil : Hid (TilOk n r lc) := htil; have Hl0 : Hid (lc[0]? = some 0) := hl0; have hyi : (y2 : Int) < (m : Int) := (by omega); have L12 := Lib.hid ((L11.out.keptB (grownBy_set w11 w.heap.size 0 (.int .i64 (n : Int))) (by omega)).keptB (grownBy_set _ w.heap.size 1 (.slice A8 k c8)) (by omega)); have L13 := Lib.hid ((L12.out.keptB (grownBy_set _ (w.heap.size + 1) 0 (.int .i64 (n : Int))) (by omega)).keptB (grownBy_set _ (w.heap.size + 1) 1 (.slice Ac nc cc)) (by omega)); have hn0 : w8.heap.size ≠ w.heap.size := (by omega); have hn1 : w8.heap.size ≠ w.heap.size + 1 := (by omega); have R12 := Lib.hid ((R11.out.other (c := w.heap.size) (k := 0) (u := .int .i64 (n : Int)) hn0).other (c := w.heap.size) (k := 1) (u := .slice A8 k c8) hn0); have R13 := Lib.hid ((R12.out.other (c := w.heap.size + 1) (k := 0) (u := .int .i64 (n : Int)) hn1).other (c := w.heap.size + 1) (k := 1) (u := .slice Ac nc cc) hn1); have hs0 := R12.out.c0; have hs1 := R12.out.c1; have hs2 := R13.out.c0; have hs3 := R13.out.c1; have V1 := T11.out.r1; have V2 := ((T11.out.r2.other (c := w.heap.size) (k := 0) (u := .int .i64 (n : Int)) hne).other (c := w.heap.size) (k := 1) (u := .slice A8 k c8) hne); have d0 := V1.c0; have f0 := V1.f 0; have d1 := (V1.set0 (m := (n : Int))).c1; have f1 := (V1.set0 (m := (n : Int))).f 1; have e0 := V2.c0; have g0 := V2.f 0; have e1 := (V2.set0 (m := (n : Int))).c1; have g1 := (V2.set0 (m := (n : Int))).f 1; clear V1 V2 hpe htil hl0 how hcw11 hgw11 hg11; have he0 := R11.out.c0; have he1 := R11.out.c1))
        all_goals
          have Fin := Lib.hid (TI.fin (n := (n : Int)) (m := (n : Int)) T11.out O11.out P11.out (by omega))
          go_wp2
          have q0 := Fin.out.1.c0
          have q1 := Fin.out.1.c1
          have q2 := Fin.out.2.1.c0
          have q3 := Fin.out.2.1.c1
          exact bodyPost_ret (v := .tuple #[.agg #[.int .i64 n, .slice A8 k c8], .agg #[.int .i64 n, .slice Ac nc cc]]) (by simp [results, Tryz.results21, q0, q1, q2, q3, go_sem]) rfl ⟨n, r, lc, _, _, hn.2, Htil.out, Hl0.out, rfl, Fin.out.2.2.1, Fin.out.2.2.2.1, Fin.out.2.2.2.2.1, Fin.out.2.2.2.2.2⟩
      · go_roundw
        case rel => exact ⟨j + 1, by omega, by go_num, T10.out⟩
        case measure => simp [intOf]; omega
    · obtain rfl : j = 6 := by omega
      have hj6i : ¬ ((6 : Nat) : Int) < 6 := by omega
      have hne : w.heap.size + 1 ≠ w.heap.size := by omega
      have O5 : Hid (Own (wr.alloc (.cells #[.int .i64 0] 3)) wr.heap.size (.slice (some ⟨wr.heap.size, 0, none⟩) 1 1) [0]) := Own.lits wr [0] (Nat.le_refl _) (by decide) (fun q hq => by simp only [List.mem_cons, List.not_mem_nil, or_false] at hq; unfold I64; omega)
      have X5 := Lib.hid (one_box wr (.cells #[.int .i64 0] 3))
      have hlt := hr.out.r2.lt
      have H0 := Lib.hid (til_fall (n := n) ⟨hn.1, by omega⟩)
      go_wp2_with (first | (go_at_call 37; refine (l02Of_c n [0] _ _ O5.out.ints (by omega)).mono ?_; rintro e w5 ⟨v5, rfl, ho5, hx5⟩; (obtain ⟨A5, n5, c5, rfl⟩ := ho5.form)) | (go_at_call 40; refine (l06Even_c n n _ (by omega) (by omega) (by omega)).mono ?_; rintro e w6 ⟨v6, rfl, ho6, hx6⟩; (obtain ⟨A6, n6, c6, rfl⟩ := ho6.form; have hs5 := X5.out.size; have hs6 := hx5.size; have O6 := Lib.hid ((ho5.base (B' := w.heap.size + 2) (by omega)).ext hx6); have P6 := Lib.hid (ho6.base (B' := w.heap.size + 2) (by omega)); have T6 := Lib.hid (hr.out.ext (X5.out.tr (hx5.tr hx6))); have V1 := T6.out.r1; have V2 := ((T6.out.r2.other (c := w.heap.size) (k := 0) (u := .int .i64 (n : Int)) hne).other (c := w.heap.size) (k := 1) (u := .slice A5 n5 c5) hne); have d0 := V1.c0; have f0 := V1.f 0; have d1 := (V1.set0 (m := (n : Int))).c1; have f1 := (V1.set0 (m := (n : Int))).f 1; have e0 := V2.c0; have g0 := V2.f 0; have e1 := (V2.set0 (m := (n : Int))).c1; have g1 := (V2.set0 (m := (n : Int))).f 1; clear V1 V2)))
      have Fin := Lib.hid (TI.fin (n := (n : Int)) (m := (n : Int)) T6.out O6.out P6.out (Nat.le_refl _))
      have q0 := Fin.out.1.c0
      have q1 := Fin.out.1.c1
      have q2 := Fin.out.2.1.c0
      have q3 := Fin.out.2.1.c1
      exact bodyPost_ret (v := .tuple #[.agg #[.int .i64 n, .slice A5 n5 c5], .agg #[.int .i64 n, .slice A6 n6 c6]]) (by simp [results, Tryz.results21, q0, q1, q2, q3, go_sem]) rfl ⟨n, _, _, _, _, hn.2, H0.out.1, H0.out.2, rfl, Fin.out.2.2.1, Fin.out.2.2.2.1, Fin.out.2.2.2.2.1, Fin.out.2.2.2.2.2⟩
def TileOut (w : World) (e : Ending) (w' : World) : Prop :=
  ∃ (n : Nat) (a c : List Int) (u t : Value), n ≤ 12 ∧ TilOk n a c ∧ c[0]? = some 0 ∧ e = .returned (.tuple #[.agg #[.int .i64 n, u], .agg #[.int .i64 n, t]]) ∧ Own w' w.heap.size u a ∧ Own w' w.heap.size t c ∧ Ext w w'
set_option maxRecDepth 100000 in
set_option maxHeartbeats 1000000 in
theorem makeTile_c (l : List Int) (s : Nat) (v : Value) (w : World) (hv : Byts w v l) (hs : s ≤ 1000) : Calls Tryz.prog 4 #[v, .int .i64 s] w (TileOut w) := by
  have hx1 := one_box w (.cells #[.int .i64 0, .slice none 0 0] 25)
  have hx2 := one_box (w.alloc (.cells #[.int .i64 0, .slice none 0 0] 25)) (.cells #[.int .i64 0, .slice none 0 0] 25)
  have ha := (RVar.new (T := 25) w 0 (.slice none 0 0)).ext hx2
  have hb : RVar ((w.alloc (.cells #[.int .i64 0, .slice none 0 0] 25)).alloc (.cells #[.int .i64 0, .slice none 0 0] 25)) (w.heap.size + 1) 0 (.slice none 0 0) := by
    simpa only [World.size_alloc] using RVar.new (T := 25) (w.alloc (.cells #[.int .i64 0, .slice none 0 0] 25)) 0 (.slice none 0 0)
  have hne : w.heap.size + 1 ≠ w.heap.size := by omega
  have hsz : ((w.alloc (.cells #[.int .i64 0, .slice none 0 0] 25)).alloc (.cells #[.int .i64 0, .slice none 0 0] 25)).heap.size = w.heap.size + 2 := by simp only [World.size_alloc]
  have Hsz := Lib.hid hsz
  have Hx := Lib.hid (hx1.tr hx2)
  have Hv := Lib.hid (hv.ext (hx1.tr hx2))
  have Ha := Lib.hid ha
  have Hb := Lib.hid hb
  clear hv hx1 hx2 ha hb hsz
  go_enter Tryz.func4, Tryz.ntmps4
  go_wp2_with (first | (go_at_call 22; refine (l31New_c l s _ _ Hv.out (by omega)).mono ?_; rintro e w3 ⟨bw3, rfl, hcw3⟩; (have X3 := Lib.hid hcw3.1; have C3 := Lib.hid hcw3; have hbq : w.heap.size + 2 ≤ bw3 := (by have := hcw3.2.1; have := Hsz.out; omega); clear hcw3)) | (go_at_call 21; refine (l09Tile_c l _ _ _ _ Hv.out C3.out).mono ?_; rintro e w4 ⟨nw4, aw4, cw4, uw4, tw4, hnw4, htw4, h0w4, rfl, how4, hpw4, hcw4, hgw4⟩; (obtain ⟨A4, n4, c4, rfl⟩ := how4.form; obtain ⟨A5, n5, c5, rfl⟩ := hpw4.form; have X4 := Lib.hid (Hx.out.tr hcw4.1); have R1 := Lib.hid (Ha.out.ext hcw4.1); have R0 := Lib.hid (Hb.out.ext hcw4.1); have R2 := Lib.hid ((R0.out.other (k := 0) (u := .int .i64 (nw4 : Int)) hne).other (k := 1) (u := .slice A4 n4 c4) hne); have O4 := Lib.hid (how4.base (B' := w.heap.size + 2) (by omega)); have P4 := Lib.hid (hpw4.base (B' := w.heap.size + 2) (by omega)); have Ht := Lib.hid htw4; have H0 := Lib.hid h0w4; clear how4 hpw4 hcw4 htw4 h0w4; have d0 := R1.out.c0; have f0 := R1.out.f 0; have d1 := (R1.out.set0 (m := (nw4 : Int))).c1; have f1 := (R1.out.set0 (m := (nw4 : Int))).f 1; have e0 := R2.out.c0; have g0 := R2.out.f 0; have e1 := (R2.out.set0 (m := (nw4 : Int))).c1; have g1 := (R2.out.set0 (m := (nw4 : Int))).f 1)))
  have Fin := Lib.hid (fin2 (n := (nw4 : Int)) (m := (nw4 : Int)) R1.out R0.out O4.out P4.out X4.out)
  have q0 := Fin.out.1.c0
  have q1 := Fin.out.1.c1
  have q2 := Fin.out.2.1.c0
  have q3 := Fin.out.2.1.c1
  exact bodyPost_ret (v := .tuple #[.agg #[.int .i64 nw4, .slice A4 n4 c4], .agg #[.int .i64 nw4, .slice A5 n5 c5]]) (by simp [results, Tryz.results4, q0, q1, q2, q3, go_sem]) rfl ⟨nw4, _, _, _, _, hnw4, Ht.out, H0.out, rfl, Fin.out.2.2.1, Fin.out.2.2.2.1, Fin.out.2.2.2.2⟩
end Go.Proofs.YtjecdmlojgmbeaaGreatDoor
