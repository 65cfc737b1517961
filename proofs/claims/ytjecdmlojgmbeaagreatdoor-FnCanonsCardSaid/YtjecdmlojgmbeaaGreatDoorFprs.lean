/- Contracts: strings.Trim at dots and beats; ParseRhythm on both sides. -/
import Derived.Test.YtjecdmlojgmbeaaGreatDoorPureB
import Derived.Shelf.Strings.SlTrimAscii
namespace Go.Proofs.YtjecdmlojgmbeaaGreatDoor
open Go.RowKit
theorem bsq {a b : ByteArray} (h : a = b) : (a.toList == b.toList) = true := by subst h; exact beq_self_eq_true _
theorem bsn {a b : ByteArray} (h : ¬ a = b) : (a.toList == b.toList) = false := by
  cases e : a.toList == b.toList with
  | false => rfl
  | true =>
    have e2 : a.toList = b.toList := by simpa using e
    rw [Go.Lib.toList_data, Go.Lib.toList_data] at e2
    exact absurd (bs_ext e2) h
theorem bs_empty {t : ByteArray} (h : ¬ t = ⟨#[]⟩) : t.toList.isEmpty = false := by
  have h2 := bsn h
  cases e : t.toList with
  | nil => rw [e] at h2; simp at h2
  | cons a l => rfl
/-- the two variables of a call that builds a rhythm: block w.heap.size is the result's, block rb the one in the making -/
def RIx (w wr : World) (rb : Nat) (n : Int) (v : Value) (l : List Int) : Prop :=
  RVar wr w.heap.size 0 (.slice none 0 0) ∧ RVar wr rb n v ∧ Own wr (rb + 1) v l ∧ Ext w wr ∧ w.heap.size < rb
theorem RIx.ne {w wr : World} {rb : Nat} {n : Int} {v : Value} {l : List Int} (h : RIx w wr rb n v l) {b : Nat} (hb : b < rb + 1) : v.ownBlock ≠ some b := by
  intro e
  have := (h.2.2.1.lt b e).1
  omega
theorem RIx.ext {w wr w' : World} {rb : Nat} {n : Int} {v : Value} {l : List Int} (h : RIx w wr rb n v l) (hx : Ext wr w') : RIx w w' rb n v l := ⟨h.1.ext hx, h.2.1.ext hx, h.2.2.1.ext hx, h.2.2.2.1.tr hx, h.2.2.2.2⟩
theorem RIx.size {w wr : World} {rb : Nat} {n : Int} {v : Value} {l : List Int} (h : RIx w wr rb n v l) : rb + 1 ≤ wr.heap.size := h.2.1.lt
theorem RIx.app {w wr w' : World} {rb : Nat} {n : Int} {v v' : Value} {l l' : List Int} (h : RIx w wr rb n v l) (ho : Own w' (rb + 1) v' l') (hg : wr.grownBy w' v.ownBlock) :
    RVar w' rb n v ∧ RIx w (w'.setCell ⟨rb, 1, none⟩ v') rb n v' l' := by
  have hlt := h.2.2.2.2
  have h0 := h.1.kept hg (h.ne (by omega))
  have h1 := h.2.1.kept hg (h.ne (by omega))
  refine ⟨h1, h0.other (by omega), h1.set1, ho.other (by omega), ?_, hlt⟩
  refine Below.setCell ?_ (by show w.heap.size ≤ rb; omega) _
  exact h.2.2.2.1.grown hg h.2.2.2.1.size fun k hk => by have := (h.2.2.1.lt k hk).1; omega
theorem RIx.fin {w wr : World} {rb : Nat} {n : Int} {v : Value} {l : List Int} (h : RIx w wr rb n v l) :
    RVar ((wr.setCell ⟨w.heap.size, 0, none⟩ (.int .i64 n)).setCell ⟨w.heap.size, 1, none⟩ v) w.heap.size n v ∧ Own ((wr.setCell ⟨w.heap.size, 0, none⟩ (.int .i64 n)).setCell ⟨w.heap.size, 1, none⟩ v) w.heap.size v l ∧ Ext w ((wr.setCell ⟨w.heap.size, 0, none⟩ (.int .i64 n)).setCell ⟨w.heap.size, 1, none⟩ v) := by
  have hlt := h.2.2.2.2
  exact ⟨h.1.set0.set1, ((h.2.2.1.other (by omega)).other (by omega)).base (by omega), (h.2.2.2.1.setCell (by simp) _).setCell (by simp) _⟩
theorem RIx.new {w w1 : World} (n : Int) (hx : Ext (w.alloc (.cells #[.int .i64 0, .slice none 0 0] 25)) w1) : RIx w (w1.alloc (.cells #[.int .i64 n, .slice none 0 0] 25)) w1.heap.size n (.slice none 0 0) [] := by
  have hs := hx.size
  rw [World.size_alloc] at hs
  exact ⟨((RVar.new (T := 25) w 0 (.slice none 0 0)).ext hx).ext (one_box w1 _), RVar.new w1 n _, Own.nil _ _, (one_box w _).tr (hx.tr (one_box w1 _)), by omega⟩
theorem byte_at (s : ByteArray) {p : Nat} (hp : p < s.size) : s.data.toList[p]? = some (s[p]'hp) := by
  rw [List.getElem?_eq_getElem (by rw [size_list]; exact hp)]
  rfl
theorem u8_eq {b : UInt8} (h : b = 120) : ((b.toNat : Int) == 120) = true := by subst h; rfl
theorem u8_ne {b : UInt8} (h : ¬ b = 120) : ((b.toNat : Int) == 120) = false := by
  rw [beq_eq_false_iff_ne]
  intro e
  exact h (UInt8.toNat_inj.1 (by have : b.toNat = 120 := by omega
                                 rw [this]; rfl))
theorem trim_c (s : ByteArray) (w : World) (hs : s.size ≤ 1048576) : Calls Tryz.prog 48 #[.string s, .string ⟨#[120, 46]⟩] w fun e w' => ∃ t : ByteArray, e = .returned (.string t) ∧ (t = ⟨#[]⟩ ↔ dotB s = true) ∧ Ext w w' :=
  (Any.strings_Trim_laid Tryz.lays160 (by kernel_rfl) s ⟨#[120, 46]⟩ w (by omega) (by decide) (ascii_of_all (by decide))).mono fun e w' h => by
    refine ⟨_, h.1, ?_, h.2⟩
    show _ ↔ (s.data.toList.all fun b => b == 120 || b == 46) = true
    rw [← trim_dot]
    constructor
    · intro e2
      have := congrArg (fun z : ByteArray => z.data.toList) e2
      simpa using this
    · intro e2
      rw [show (⟨#[120, 46]⟩ : ByteArray).data.toList = [120, 46] from rfl, e2]
set_option maxRecDepth 100000 in
set_option maxHeartbeats 2000000 in
theorem parseRhythm_c (s : ByteArray) (w : World) (hs : s.size ≤ 1048576) : Calls Tryz.prog 34 #[.string s] w (RRB (prN s) (prL s) (prB s) w) := by
  have hx0 := one_box w (.cells #[.int .i64 0, .slice none 0 0] 25)
  have Hq := Lib.hid (RVar.new (T := 25) w 0 (.slice none 0 0))
  have HX := Lib.hid hx0
  clear hx0
  by_cases hp : prB s = true
  · obtain ⟨h1, h2, h3, h4, h5⟩ := pr_t hp
    have Hp := Lib.hid hp
    have H1 := Lib.hid h1
    have H2 := Lib.hid h2
    have H5 := Lib.hid h5
    have hz : ((⟨#[]⟩ : ByteArray).toList == (⟨#[]⟩ : ByteArray).toList) = true := bsq rfl
    clear hp h1 h2 h5
    go_enter Tryz.func34, Tryz.ntmps34
    go_wp2_with (first | (go_at_call 30; refine (within_t _ ?_).mono ?_; (focus omega); rintro e w1 ⟨rfl, rfl⟩) | (go_at_call 48; refine (trim_c s _ hs).mono ?_; rintro e w2 ⟨t, rfl, ht, hx2⟩; obtain rfl := ht.2 H5.out; clear ht))
    have HM := Lib.hid (RIx.new (s.size : Int) hx2)
    clear hx2 hz
    go_loopw [21] (fun i wr => ∃ (k : Nat) (u : Value), k ≤ s.size ∧ i = .int .i64 k ∧ Hid (RIx w wr w2.heap.size s.size u (psUp s k))) (fun i _ => s.size - (intOf i).toNat)
    case atStart => exact ⟨0, _, Nat.zero_le _, rfl, HM.out⟩
    case round =>
      clear HM
      obtain ⟨k, u, hk, rfl, hr⟩ := hrel
      obtain ⟨Au, nu, cu, rfl⟩ := hr.out.2.2.1.form
      have hc1 := hr.out.2.1.c1
      have hl := psUp_len s k
      have hz := hr.out.size
      by_cases hkn : k < s.size
      · have hkni : (k : Int) < (s.size : Int) := by omega
        by_cases hin : (s[k]'hkn) = 120
        · have Hn := Lib.hid (psUp_t (s := s) (k := k) (by rw [byte_at s hkn, hin]))
          have hb := u8_eq hin
          clear hin
          go_wp2_with (first | (at_builtin; refine wp_append1 rfl (.tmp 29) (.tmp 31) rfl rfl rfl hr.out.2.2.1 (by unfold I64; omega) (by omega) hz ?_; intro v' w' ho hg hb2 hat; obtain ⟨Av, nv, cv, rfl⟩ := ho.form; have Hr := Lib.hid (hr.out.app ho hg); have hc := Hr.out.1.c1; have hf := Hr.out.1.f 1))
          go_roundw
          case rel => exact ⟨k + 1, _, by omega, by go_num, by unfold Hid; rw [Hn.out]; exact Hr.out.2⟩
          case measure => simp [intOf]; omega
        · have Hn := Lib.hid (psUp_f (s := s) (k := k) (by rw [byte_at s hkn]; exact fun e => hin (Option.some.inj e)))
          have hb := u8_ne hin
          clear hin
          go_wp2
          go_roundw
          case rel => exact ⟨k + 1, _, by omega, by go_num, by unfold Hid; rw [Hn.out]; exact hr.out⟩
          case measure => simp [intOf]; omega
      · obtain rfl : k = s.size := by omega
        have hc0 := hr.out.2.1.c0
        have hd0 := hr.out.1.c0
        have hf0 := hr.out.1.f 0
        have hd1 := (hr.out.1.set0 (m := (s.size : Int))).c1
        have hf1 := (hr.out.1.set0 (m := (s.size : Int))).f 1
        have Hr := Lib.hid hr.out.fin
        have hlt := hr.out.2.2.2.2
        go_wp2
        have hcf0 := Hr.out.1.c0
        have hcf1 := Hr.out.1.c1
        exact bodyPost_ret (v := .tuple #[.agg #[.int .i64 s.size, .slice Au nu cu], .bool true]) (by simp [results, Tryz.results34, hcf0, hcf1, go_sem]) rfl ⟨_, by rw [H1.out, Hp.out], by rw [H2.out]; exact Hr.out.2.1, Hr.out.2.2⟩
  · have hpf : prB s = false := by simpa using hp
    have H := Lib.hid (pr_f hpf)
    have Hpf := Lib.hid hpf
    by_cases hsz : 1 ≤ s.size ∧ s.size ≤ 24
    · have Hd : Hid (¬ dotB s = true) := fun h => by unfold prB at hpf; rw [h] at hpf; simp at hpf; omega
      clear hp hpf
      go_enter Tryz.func34, Tryz.ntmps34
      go_wp2_with (first | (go_at_call 30; refine (within_t _ ?_).mono ?_; (focus omega); rintro e w1 ⟨rfl, rfl⟩) | (go_at_call 48; refine (trim_c s _ hs).mono ?_; rintro e w2 ⟨t, rfl, ht, hx2⟩; have hz := bs_empty (t := t) (fun h => Hd.out (ht.1 h)); clear ht; have hd0 := (Hq.out.ext hx2).c0; have hf0 := (Hq.out.ext hx2).f 0; have hd1 := ((Hq.out.ext hx2).set0 (m := 0)).c1; have hf1 := ((Hq.out.ext hx2).set0 (m := 0)).f 1; have Hr := Lib.hid (ret_fin (n := 0) (B := w.heap.size + 1) (Hq.out.ext hx2) (Own.nil _ _) (Nat.le_refl _) (HX.out.tr hx2))))
      have hcf0 := Hr.out.1.c0
      have hcf1 := Hr.out.1.c1
      exact bodyPost_ret (v := .tuple #[.agg #[.int .i64 0, .slice none 0 0], .bool false]) (by simp [results, Tryz.results34, hcf0, hcf1, go_sem]) rfl ⟨_, by rw [H.out.1, Hpf.out], by rw [H.out.2]; exact Own.nil _ _, Hr.out.2.2⟩
    · clear hp hpf
      go_enter Tryz.func34, Tryz.ntmps34
      go_wp2_with (first | (go_at_call 30; refine (within_f _ ?_).mono ?_; (focus omega); rintro e w1 ⟨rfl, rfl⟩))
      have hcf0 := Hq.out.c0
      have hcf1 := Hq.out.c1
      exact bodyPost_ret (v := .tuple #[.agg #[.int .i64 0, .slice none 0 0], .bool false]) (by simp [results, Tryz.results34, hcf0, hcf1, go_sem]) rfl ⟨_, by rw [H.out.1, Hpf.out], by rw [H.out.2]; exact Own.nil _ _, HX.out⟩
theorem RIx.start (w : World) (n : Int) : RIx w ((w.alloc (.cells #[.int .i64 0, .slice none 0 0] 25)).alloc (.cells #[.int .i64 n, .slice none 0 0] 25)) (w.heap.size + 1) n (.slice none 0 0) [] := by
  have h := RIx.new (w := w) n (Below.refl _ _)
  rw [World.size_alloc] at h
  exact h
end Go.Proofs.YtjecdmlojgmbeaaGreatDoor
