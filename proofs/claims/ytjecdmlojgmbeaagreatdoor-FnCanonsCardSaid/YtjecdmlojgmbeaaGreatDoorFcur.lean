/- Words and contracts: the cursor over a row of bytes: l01New, l01Byte, l01Below, l01Once, l31New, MakeNum. -/
import Derived.Test.YtjecdmlojgmbeaaGreatDoorMem
import Derived.Test.YtjecdmlojgmbeaaGreatDoorBlk
import Derived.Deep.RegionLaw
import Derived.Deep.RegionHeld3
namespace Go.Proofs.YtjecdmlojgmbeaaGreatDoor
open Go.RowKit
/-- The value v is a slice of bytes that reads as l. -/
def Byts (w : World) (v : Value) (l : List Int) : Prop :=
  ∃ A c, v = .slice A l.length c ∧ l.length ≤ c ∧ c ≤ maxLen ∧ ∀ k x, l[k]? = some x → (0 ≤ x ∧ x ≤ 255) ∧ ∃ ad, A = some ad ∧ w.cell? (ad.add k) = some (.int .u8 x)
theorem Byts.ext {w w' : World} {v : Value} {l : List Int} (h : Byts w v l) (hb : Ext w w') : Byts w' v l := by
  obtain ⟨A, c, rfl, h1, h2, h3⟩ := h
  refine ⟨A, c, rfl, h1, h2, fun k x hx => ?_⟩
  obtain ⟨hi, ad, rfl, hc⟩ := h3 k x hx
  refine ⟨hi, ad, rfl, ?_⟩
  rw [hb.cell (World.block_lt_of_cell? w _ hc)]
  exact hc
theorem Byts.form0 {w : World} {v : Value} {l : List Int} (h : Byts w v l) : ∃ A c, v = .slice A l.length c := by obtain ⟨A, c, hv, _⟩ := h; exact ⟨A, c, hv⟩
theorem Byts.at_ {w : World} {A : Option Addr} {n c k : Nat} {x : Int} {l : List Int} (h : Byts w (.slice A n c) l) (hx : l[k]? = some x) : (0 ≤ x ∧ x ≤ 255) ∧ ∃ ad, A = some ad ∧ w.cell? (ad.add k) = some (.int .u8 x) := by
  obtain ⟨A', c', he, _, _, h3⟩ := h
  simp only [Value.slice.injEq] at he
  obtain ⟨rfl, _, _⟩ := he
  exact h3 k x hx
/-- The block b, made behind w0, is a cursor over the row v of n bytes. -/
def Cur (w0 w : World) (b : Nat) (v : Value) (n : Nat) : Prop :=
  Ext w0 w ∧ w0.heap.size ≤ b ∧ ∃ (i : Nat) (h : Int), i ≤ n ∧ Blk w b 74 #[v, .int .i64 i, .int .i64 h]
theorem Cur.ext {w0 w w' : World} {b n : Nat} {v : Value} (h : Cur w0 w b v n) (hx : Ext w w') : Cur w0 w' b v n := by
  obtain ⟨h1, h2, i, z, h3, h4⟩ := h
  exact ⟨h1.tr hx, h2, i, z, h3, h4.ext hx⟩
theorem and255 (z : Int) : ∃ x : Nat, x ≤ 255 ∧ bits .and .i64 z 255 = (x : Int) := by
  refine ⟨(BitVec.ofInt 64 z &&& BitVec.ofInt 64 255).toNat, ?_, ?_⟩
  · rw [BitVec.toNat_and]
    exact Nat.le_trans Nat.and_le_right (by decide)
  · have hx : (BitVec.ofInt 64 z &&& BitVec.ofInt 64 255).toNat ≤ 255 := by
      rw [BitVec.toNat_and]
      exact Nat.le_trans Nat.and_le_right (by decide)
    show IntKind.i64.wrap ((BitVec.ofInt 64 z &&& BitVec.ofInt 64 255).toNat : Int) = _
    rw [IntKind.wrap_i64]
    omega
set_option maxRecDepth 100000 in
theorem l01New_c (l : List Int) (v : Value) (w : World) (hv : Byts w v l) : Calls Tryz.prog 41 #[v] w (fun e w' => ∃ b : Nat, e = .returned (.pointer (some ⟨b, 0, none⟩)) ∧ Cur w w' b v l.length) := by
  obtain ⟨A, c, hve⟩ := hv.form0
  have hlm : l.length ≤ 9223372036854775807 := by obtain ⟨_, c', _, h1, h2, _⟩ := hv; unfold maxLen at h2; omega
  obtain ⟨m, hm⟩ : ∃ m, m = l.length := ⟨_, rfl⟩
  rw [← hm] at hve
  subst hve
  have Hv := Lib.hid hv
  rw [← hm] at hlm ⊢
  have Hm := Lib.hid hm
  clear hv hm
  go_enter Tryz.func41, Tryz.ntmps41
  go_wp2
  go_loop [3, 4] (fun h i => ∃ (k : Nat) (z : Int), k ≤ m ∧ i = .int .i64 k ∧ h = .int .i64 z) (fun _ i => m - (intOf i).toNat)
  case atStart => exact ⟨0, _, Nat.zero_le _, rfl, rfl⟩
  case round =>
    obtain ⟨k, z, hk, rfl, rfl⟩ := hrel
    by_cases hkm : k < m
    · by_cases hk4 : k < 4000
      · obtain ⟨x, hx⟩ : ∃ x, l[k]? = some x := ⟨_, List.getElem?_eq_getElem (by rw [← Hm.out]; exact hkm)⟩
        obtain ⟨hxr, ad, rfl, hc⟩ := Hv.out.at_ hx
        have hkm2 : (k : Int) < (m : Int) := by omega
        have hk42 : (k : Int) < 4000 := by omega
        clear hx
        go_wp2
        go_round
        case rel => exact ⟨k + 1, _, by omega, by go_num, rfl⟩
        case measure => simp [intOf]; omega
      · have hkm2 : (k : Int) < (m : Int) := by omega
        have hk42 : ¬ (k : Int) < 4000 := by omega
        go_wp2
        go_ret
        exact ⟨_, rfl, (Below.refl _ _).alloc (Nat.le_refl _) _, Nat.le_refl _, 0, _, Nat.zero_le _, Blk.new _ _ _⟩
    · have hkm2 : ¬ (k : Int) < (m : Int) := by omega
      go_wp2
      go_ret
      exact ⟨_, rfl, (Below.refl _ _).alloc (Nat.le_refl _) _, Nat.le_refl _, 0, _, Nat.zero_le _, Blk.new _ _ _⟩
theorem byte_end (z : Int) : ∃ x : Nat, x ≤ 255 ∧ (Ending.returned (.int .i64 (bits .and .i64 z 255)) : Ending) = .returned (.int .i64 x) := by
  obtain ⟨x, h, e⟩ := and255 z
  exact ⟨x, h, by rw [e]⟩
def BytePost (w0 w : World) (b : Nat) (v : Value) (n : Nat) (e : Ending) (w' : World) : Prop := ∃ x : Nat, x ≤ 255 ∧ e = .returned (.int .i64 x) ∧ Cur w0 w' b v n ∧ w.grownBy w' (some b)
set_option maxRecDepth 100000 in
set_option maxHeartbeats 1000000 in
theorem l01Byte_c (l : List Int) (v : Value) (w0 w : World) (b : Nat) (hv : Byts w0 v l) (hc : Cur w0 w b v l.length) : Calls Tryz.prog 25 #[.pointer (some ⟨b, 0, none⟩)] w (BytePost w0 w b v l.length) := by
  obtain ⟨A, c, hve⟩ := hv.form0
  have hlm : l.length ≤ 9223372036854775807 := by obtain ⟨_, c', _, h1, h2, _⟩ := hv; unfold maxLen at h2; omega
  obtain ⟨m, hm⟩ : ∃ m, m = l.length := ⟨_, rfl⟩
  rw [← hm] at hve hc hlm ⊢
  subst hve
  have Hm := Lib.hid hm
  obtain ⟨hx, hB, i, h, him, hb⟩ := hc
  have Hv0 := Lib.hid hv
  have Hv := Lib.hid (hv.ext hx)
  have Hx := Lib.hid hx
  have Hb := Lib.hid hb
  have c0 : w.cell? ⟨b, 0, none⟩ = some (.slice A m c) := hb.cell 0
  have c1 : w.cell? ⟨b, 1, none⟩ = some (.int .i64 i) := hb.cell 1
  have c2 : w.cell? ⟨b, 2, none⟩ = some (.int .i64 h) := hb.cell 2
  have f1 : w.frozen? ⟨b, 1, none⟩ = false := hb.frozen 1
  have f2 : w.frozen? ⟨b, 2, none⟩ = false := hb.frozen 2
  have HB := Lib.hid hB
  clear hv hx hb hm
  have hfin : ∀ (z : Int) (i' : Nat) (h' : Int) (w' : World), i' ≤ m → Blk w' b 74 #[.slice A m c, .int .i64 i', .int .i64 h'] → w.grownBy w' (some b) → BytePost w0 w b (.slice A m c) m (.returned (.int .i64 (bits .and .i64 z 255))) w' := fun z i' h' w' h1 h2 h3 => by
    obtain ⟨x, hx, e⟩ := byte_end z
    exact ⟨x, hx, e, ⟨Hx.out.grown h3 Hx.out.size fun k hk => by cases hk; exact HB.out, HB.out, i', h', h1, h2⟩, h3⟩
  have HA : Hid (∀ (z u : Int) (k1 k2 : Nat), BytePost w0 w b (.slice A m c) m (.returned (.int .i64 (bits .and .i64 z 255))) (((w.setCell ⟨b, 2, none⟩ (.int .i64 u)).drewN k1).drewN k2)) := fun z u k1 k2 =>
    hfin z i u _ him (((Hb.out.set_ 2 (.int .i64 u)).drewN _).drewN _) (grownBy_tr (grownBy_tr (grownBy_set _ b 2 _) (grownBy_drewN _ _ _)) (grownBy_drewN _ _ _))
  have HB2 : Hid (i < m → ∀ (z u : Int) (k : Nat), BytePost w0 w b (.slice A m c) m (.returned (.int .i64 (bits .and .i64 z 255))) (((w.setCell ⟨b, 2, none⟩ (.int .i64 u)).drewN k).setCell ⟨b, 1, none⟩ (.int .i64 ((i : Int) + 1)))) := fun hi z u k =>
    hfin z (i + 1) u _ (by omega) (((Hb.out.set_ 2 (.int .i64 u)).drewN _).set_ 1 (.int .i64 ((i : Int) + 1))) (grownBy_tr (grownBy_tr (grownBy_set _ b 2 _) (grownBy_drewN _ _ _)) (grownBy_set _ b 1 _))
  clear hfin
  by_cases hi : i < m
  · obtain ⟨y, hy⟩ : ∃ y, l[i]? = some y := ⟨_, List.getElem?_eq_getElem (by rw [← Hm.out]; exact hi)⟩
    obtain ⟨hyr, ad, rfl, hcy⟩ := Hv.out.at_ hy
    have hlt : (ad.add i).block < w0.heap.size := by
      obtain ⟨_, ad', he, hc0⟩ := Hv0.out.at_ hy
      cases he
      exact World.block_lt_of_cell? w0 _ hc0
    have hcy2 : ∀ u, (w.setCell ⟨b, 2, none⟩ u).cell? (ad.add i) = some (.int .u8 y) := fun u => by
      rw [World.cell?_setCell_far w ⟨b, 2, none⟩ (ad.add i) u (by have := HB.out; show b ≠ _; omega)]
      exact hcy
    have hi2 : (i : Int) < (m : Int) := by omega
    have hw1 : IntKind.i64.wrap ((i : Int) + 1) = ((i + 1 : Nat) : Int) := by rw [show ((i : Int) + 1) = ((i + 1 : Nat) : Int) by omega]; exact IntWalk.i64_in _ (by omega)
    clear hy hcy hlt
    go_enter Tryz.func25, Tryz.ntmps25
    go_wp2
    go_quiet (fail)
    go_wp2
    go_quiet (fail)
    go_wp2
    go_quiet (fail)
    go_wp2
    go_ret
    exact HB2.out hi _ _ _
  · have hi2 : ¬ (i : Int) < (m : Int) := by omega
    go_enter Tryz.func25, Tryz.ntmps25
    go_wp2
    go_quiet (fail)
    go_wp2
    go_quiet (fail)
    go_wp2
    go_ret
    exact HA.out _ _ _ _
theorem Cur.kept {w0 w w' : World} {b n : Nat} {v : Value} {row : Option Nat} (h : Cur w0 w b v n) (hg : w.grownBy w' row) (hr : ∀ k, row = some k → w0.heap.size ≤ k ∧ k ≠ b) : Cur w0 w' b v n := by
  obtain ⟨h1, h2, i, z, h3, h4⟩ := h
  exact ⟨h1.grown hg h1.size fun k hk => (hr k hk).1, h2, i, z, h3, h4.grown hg fun e => (hr b e).2 rfl⟩
def BelowPost (w0 w : World) (b : Nat) (v : Value) (n q : Nat) (e : Ending) (w' : World) : Prop := ∃ x : Nat, x < q ∧ e = .returned (.int .i64 x) ∧ Cur w0 w' b v n ∧ w.grownBy w' (some b)
set_option maxRecDepth 100000 in
theorem l01Below_c (l : List Int) (q : Nat) (v : Value) (w0 w : World) (b : Nat) (hv : Byts w0 v l) (hc : Cur w0 w b v l.length) (hq : 1 ≤ q ∧ q ≤ 256) : Calls Tryz.prog 38 #[.pointer (some ⟨b, 0, none⟩), .int .i64 q] w (BelowPost w0 w b v l.length q) := by
  have h1 : ¬ (q : Int) ≤ 0 := by omega
  have h2 : (q : Int) ≤ 256 := by omega
  have h3 : (1 : Int) ≤ (q : Int) := by omega
  have h4 : ((q : Int) == 0) = false := by rw [beq_eq_false_iff_ne]; omega
  have Hv := Lib.hid hv
  have Hc := Lib.hid hc
  clear hv hc
  go_enter Tryz.func38, Tryz.ntmps38
  go_wp2_with (first | (go_at_call 25; refine (l01Byte_c l _ _ _ _ Hv.out Hc.out).mono ?_; rintro e w2 ⟨x, hlx, rfl, hcw2, hgw2⟩; (have hm : ((x : Nat) : Int) % (q : Int) = ((x % q : Nat) : Int) := by omega)))
  go_ret
  exact ⟨x % q, Nat.mod_lt _ (by omega), by rw [← hm]; rfl, hcw2, hgw2⟩
set_option maxRecDepth 100000 in
theorem l01Once_c (l : List Int) (q : Nat) (v : Value) (w0 w : World) (b : Nat) (hv : Byts w0 v l) (hc : Cur w0 w b v l.length) (hq : 1 ≤ q ∧ q ≤ 256) : Calls Tryz.prog 35 #[.pointer (some ⟨b, 0, none⟩), .int .i64 q] w (fun e w' => ∃ x : Bool, e = .returned (.bool x) ∧ Cur w0 w' b v l.length ∧ w.grownBy w' (some b)) := by
  have Hv := Lib.hid hv
  have Hc := Lib.hid hc
  clear hv hc
  go_enter Tryz.func35, Tryz.ntmps35
  go_wp2_with (first | (go_at_call 38; refine (l01Below_c l q _ _ _ _ Hv.out Hc.out (by omega)).mono ?_; rintro e w2 ⟨x, hlx, rfl, hcw2, hgw2⟩))
  go_ret
  exact ⟨_, rfl, hcw2, hgw2⟩
set_option maxRecDepth 100000 in
theorem l31New_c (l : List Int) (q : Nat) (v : Value) (w : World) (hv : Byts w v l) (hq : q ≤ 1000) : Calls Tryz.prog 22 #[v, .int .i64 q] w (fun e w' => ∃ b : Nat, e = .returned (.pointer (some ⟨b, 0, none⟩)) ∧ Cur w w' b v l.length) := by
  have Hv := Lib.hid hv
  clear hv
  go_enter Tryz.func22, Tryz.ntmps22
  go_wp2_with (first | (go_at_call 41; refine (l01New_c l _ _ Hv.out).mono ?_; rintro e w2 ⟨bw2, rfl, hcw2⟩))
  go_loopw [6] (fun i wr => ∃ k : Nat, k ≤ q ∧ i = .int .i64 k ∧ Hid (Cur w wr bw2 v l.length)) (fun i _ => q - (intOf i).toNat)
  case atStart => exact ⟨0, Nat.zero_le _, rfl, hcw2⟩
  case round =>
    obtain ⟨k, hk, rfl, hc⟩ := hrel
    by_cases hkq : k < q
    · have hkq2 : (k : Int) < (q : Int) := by omega
      go_wp2_with (first | (go_at_call 25; refine (l01Byte_c l _ _ _ _ Hv.out hc.out).mono ?_; rintro e w3 ⟨x, hlx, rfl, hcw3, hgw3⟩))
      go_roundw
      case rel => exact ⟨k + 1, by omega, by go_num, hcw3⟩
      case measure => simp [intOf]; omega
    · obtain rfl : k = q := by omega
      go_wp2
      go_ret
      exact ⟨bw2, rfl, hc.out⟩
set_option maxRecDepth 100000 in
set_option maxHeartbeats 1000000 in
theorem makeNum_c (l : List Int) (q : Nat) (v : Value) (w : World) (hv : Byts w v l) (hq : q ≤ 1000) : Calls Tryz.prog 7 #[v, .int .i64 q] w (fun e w' => ∃ x : Nat, x ≤ 65535 ∧ e = .returned (.int .i64 x) ∧ Ext w w') := by
  have Hv := Lib.hid hv
  clear hv
  go_enter Tryz.func7, Tryz.ntmps7
  go_wp2_with (first | (go_at_call 22; refine (l31New_c l q _ _ Hv.out (by omega)).mono ?_; rintro e w2 ⟨bw2, rfl, hcw2⟩))
  have tok : True := trivial
  go_wp2_with (first | (go_at_call 25; clear tok; refine (l01Byte_c l _ _ _ _ Hv.out hcw2).mono ?_; rintro e w3 ⟨x, hlx, rfl, hcw3, hgw3⟩))
  have tok : True := trivial
  go_wp2_with (first | (go_at_call 25; clear tok; refine (l01Byte_c l _ _ _ _ Hv.out hcw3).mono ?_; rintro e w4 ⟨y, hly, rfl, hcw4, hgw4⟩))
  all_goals
    go_ret
    exact ⟨x * 256 + y, by omega, by go_num, hcw4.1⟩
end Go.Proofs.YtjecdmlojgmbeaaGreatDoor
