/- Contracts: the machine that lays a pattern on a line: newLine, lay; l13Mask, l13Step. -/
import Derived.Test.YtkdodbhkobefiaaDoorFa
import Derived.Test.YtkdodbhkobefiaaDoorPureL
import Derived.Test.YtkdodbhkobefiaaDoorBlk
namespace Go.Proofs.YtkdodbhkobefiaaDoor
open Go.RowKit

theorem newLine_c (l : List Int) (v : Value) (w : World) (hv : Ints w v l) (hp : PatOk l) : Calls Tryd.prog 21 #[v] w
    fun e w' => e = .returned (.pointer (some ⟨w.heap.size, 0, none⟩)) ∧ Blk w' w.heap.size 46 #[.int .i64 0, .int .i64 0, .int .i64 (maskN l)] ∧ Ext w w' := by
  have hlen := hp.len
  obtain ⟨ad, c, rfl, hlc, hcm⟩ := hv.form hp.1
  have Hv := Lib.hid hv
  have Hp := Lib.hid hp
  clear hp hv
  go_enter Tryd.func21, Tryd.ntmps21
  go_wp2
  go_loop [3, 8] (fun o i => ∃ k m : Nat, k ≤ l.length ∧ m < 8192 ∧ i = .int .i64 k ∧ o = .int .i64 m ∧ Hid (m = pm l k)) (fun _ i => l.length - (intOf i).toNat)
  case atStart => exact ⟨0, 0, by omega, by omega, rfl, rfl, (pm_zero l).symm⟩
  case round =>
    obtain ⟨k, m, hk, hm, rfl, rfl, hpm⟩ := hrel
    by_cases hkl : k < l.length
    · obtain ⟨x, hx⟩ : ∃ x, l[k]? = some x := ⟨_, List.getElem?_eq_getElem (by omega)⟩
      have hx12 := Hp.out.at_ hx
      obtain ⟨n, rfl⟩ := Int.eq_ofNat_of_zero_le hx12.1
      have hc := Hv.out.cell hx
      have hpl : 2 ^ n ≤ 2 ^ 12 := Nat.pow_le_pow_right (by decide) (by omega)
      have hpow : (2 : Int) ^ n = ((2 ^ n : Nat) : Int) := by rw [Int.natCast_pow]; rfl
      have hw : IntKind.i64.wrap ((2 : Int) ^ n) = ((2 ^ n : Nat) : Int) := by rw [hpow]; exact wrap_nat (by omega)
      have Hn : Hid (m ||| 2 ^ n = pm l (k + 1)) := by unfold Hid; rw [pm_succ hx, hpm.out]; have := pm_or Hp.out hx; simpa using this
      have hnl : m ||| 2 ^ n < 8192 := by rw [Hn.out]; exact pm_le Hp.out (by omega)
      have hor := i64_or m (2 ^ n) (by omega) (by omega)
      clear hx hpow
      generalize m ||| 2 ^ n = m' at *
      generalize 2 ^ n = z at *
      go_wp2
      go_round
      case rel => exact ⟨k + 1, m', by omega, hnl, by go_num, rfl, Hn⟩
      case measure => simp [intOf]; omega
    · have Hk : Hid (k = l.length) := by show k = _; omega
      go_wp2
      go_ret
      refine ⟨rfl, ?_, (Below.refl _ _).alloc (Nat.le_refl _) _⟩
      unfold maskN
      rw [← Hk.out, ← hpm.out]
      exact Blk.new _ _ _

def lnC (t s m : Nat) : Array Value := #[.int .i64 t, .int .i64 s, .int .i64 m]
def LayF (b : Nat) (t s m : Nat) (w : World) (e : Ending) (w' : World) : Prop := e = .returned (.bool false) ∧ Blk w' b 46 (lnC t s m) ∧ w.grownBy w' (some b)
theorem lay_f (b t s m : Nat) (w : World) (hb : Blk w b 46 (lnC t s m)) (hm : m < 8192) (hs : s < 8192) (h : ¬ s &&& m = 0) :
    Calls Tryd.prog 22 #[.pointer (some ⟨b, 0, none⟩)] w (LayF b t s m w) := by
  have ha := i64_and s m (by omega) (by omega)
  have hbb : (((s &&& m : Nat) : Int) != 0) = true := by rw [bne_iff_ne]; omega
  clear h
  generalize s &&& m = z at *
  have c1 : w.cell? ⟨b, 1, none⟩ = some (.int .i64 s) := hb.cell 1
  have c2 : w.cell? ⟨b, 2, none⟩ = some (.int .i64 m) := hb.cell 2
  have Hb := Lib.hid hb
  clear hb
  go_enter Tryd.func22, Tryd.ntmps22
  go_wp2
  go_quiet (fail)
  go_wp2
  go_ret
  exact ⟨rfl, Hb.out.drewN _, grownBy_drewN _ _ _⟩
def LayT (b : Nat) (t s m : Nat) (w : World) (e : Ending) (w' : World) : Prop := e = .returned (.bool true) ∧ Blk w' b 46 (lnC (t + (D (s + m)).2) (D (s + m)).1 m) ∧ w.grownBy w' (some b)
set_option maxHeartbeats 1000000 in
theorem lay_t (b t s m : Nat) (w : World) (hb : Blk w b 46 (lnC t s m)) (hm : m < 8192) (hs : s < 8192) (ht : t < 1073741824) (h : s &&& m = 0) :
    Calls Tryd.prog 22 #[.pointer (some ⟨b, 0, none⟩)] w (LayT b t s m w) := by
  have ha := i64_and s m (by omega) (by omega)
  have hor := i64_or s m (by omega) (by omega)
  rw [or_add (by omega) (by omega) h] at hor
  have hbb : (((s &&& m : Nat) : Int) != 0) = false := by rw [h]; rfl
  clear h
  generalize s &&& m = z at *
  have c1 : w.cell? ⟨b, 1, none⟩ = some (.int .i64 s) := hb.cell 1
  have c2 : w.cell? ⟨b, 2, none⟩ = some (.int .i64 m) := hb.cell 2
  have f1 : w.frozen? ⟨b, 1, none⟩ = false := hb.frozen 1
  have Hb := Lib.hid hb
  clear hb
  go_enter Tryd.func22, Tryd.ntmps22
  go_wp2
  go_quiet (fail)
  go_wp2
  go_region
  go_wp2
  go_loopw [24] (fun _ wr => ∃ t' s' : Nat, s' < 16384 ∧ t' ≤ t + (16384 - s') ∧ Hid (Blk wr b 46 (lnC t' s' m)) ∧ w.grownBy wr (some b) ∧ Hid ((D (s + m)).1 = (D s').1 ∧ t + (D (s + m)).2 = t' + (D s').2))
    (fun _ wr => (intOf ((wr.cell? ⟨b, 1, none⟩).getD undef)).toNat)
  case atStart =>
    refine ⟨t, s + m, by omega, by omega, ?_, ?_, rfl, rfl⟩
    · exact (Hb.out.drewN _).set_ 1 (.int .i64 ((s + m : Nat) : Int))
    · exact grownBy_tr (grownBy_drewN _ _ _) (grownBy_set _ b 1 _)
  case round =>
    obtain ⟨t', s', hs', ht', hblk, hgr, hD⟩ := hrel
    clear c1 c2 f1
    have c0 : wr.cell? ⟨b, 0, none⟩ = some (.int .i64 t') := hblk.out.cell 0
    have c1 : wr.cell? ⟨b, 1, none⟩ = some (.int .i64 s') := hblk.out.cell 1
    have f0 : wr.frozen? ⟨b, 0, none⟩ = false := hblk.out.frozen 0
    have f1 : wr.frozen? ⟨b, 1, none⟩ = false := hblk.out.frozen 1
    by_cases hodd : s' % 2 = 1
    · have hbt := odd_t (a := s') (by omega) hodd
      have Hn : Hid ((D (s + m)).1 = (D (s' / 2)).1 ∧ t + (D (s + m)).2 = t' + 1 + (D (s' / 2)).2) := by
        obtain ⟨h1, h2⟩ := hD.out
        rw [D_odd hodd] at h1 h2
        exact ⟨h1, by simp only at h2; omega⟩
      have ht2 : s' / 2 < s' := by omega
      have hn2 : t' + 1 ≤ t + (16384 - s' / 2) := by omega
      clear hodd
      have hblk2 : Blk ((wr.setCell ⟨b, 1, none⟩ (.int .i64 ((s' : Int) / 2))).setCell ⟨b, 0, none⟩ (.int .i64 ((t' : Int) + 1))) b 46 (lnC (t' + 1) (s' / 2) m) :=
        (hblk.out.set_ 1 (.int .i64 ((s' / 2 : Nat) : Int))).set_ 0 (.int .i64 ((t' + 1 : Nat) : Int))
      have Hblk2 := Lib.hid hblk2
      clear hblk2
      go_wp2
      refine ⟨⟨t' + 1, s' / 2, by omega, hn2, Hblk2.out, grownBy_tr hgr (grownBy_tr (grownBy_set _ b 1 _) (grownBy_set _ b 0 _)), Hn⟩, ?_⟩
      rw [Hblk2.out.cell 1, c1]
      simp [intOf, lnC]
      omega
    · have hbt := odd_f (a := s') (by omega) hodd
      have Hn : Hid ((D (s + m)).1 = s' ∧ t + (D (s + m)).2 = t') := by
        obtain ⟨h1, h2⟩ := hD.out
        rw [D_even hodd] at h1 h2
        exact ⟨h1, by simp only at h2; omega⟩
      clear hodd
      go_wp2
      go_ret
      exact ⟨rfl, by rw [Hn.out.1, Hn.out.2]; exact hblk.out, hgr⟩
end Go.Proofs.YtkdodbhkobefiaaDoor
