/- Contracts: IsCover, with the search for one list among the covers. -/
import Derived.Test.YtpnbcgnbkanebaaDoorFcc
import Derived.Test.YtpnbcgnbkanebaaDoorPureX
namespace Go.Proofs.YtpnbcgnbkanebaaDoor
open Go.RowKit
def IsCov (p : List Int) (n : Int) (l : List Int) : Prop := PatOk p ∧ 0 ≤ n ∧ n ≤ 24 ∧ l ∈ cvs p n.toNat
theorem IsCov.nat {p : List Int} {k : Nat} {l : List Int} : IsCov p k l ↔ PatOk p ∧ k ≤ 24 ∧ l ∈ cvs p k := by
  unfold IsCov
  rw [Int.toNat_natCast]
  constructor
  · rintro ⟨h1, _, h3, h4⟩; exact ⟨h1, by omega, h4⟩
  · rintro ⟨h1, h3, h4⟩; exact ⟨h1, by omega, by omega, h4⟩
theorem cov_iff {p : List Int} (hp : PatOk p) {k : Nat} (hk : k ≤ 24) (l : List Int) : l ∈ cvs p k ↔ ∃ a, takO p k l = some a := cover_iff hp hk l
theorem not_take_succ {ls : List (List Int)} {j : Nat} {c l : List Int} (h : l ∉ ls.take j) (hc : ls[j]? = some c) (hne : ¬ c = l) : l ∉ ls.take (j + 1) := by
  rw [takeL hc, List.mem_append]
  rintro (h' | h')
  · exact h h'
  · simp at h'; exact hne h'.symm
theorem icCl_c (l c : List Int) (b : Nat) (lv u : Value) (w : World) (hb : w.cell? ⟨b, 0, none⟩ = some lv) (hl : Ints w lv l) (hu : Ints w u c) : Calls Tryd.prog 30 #[u, .pointer (some ⟨b, 0, none⟩)] w (RB (c = l) w) := by
  obtain ⟨A, k, hlv, _, _⟩ := hl.form0
  obtain ⟨m, hm⟩ : ∃ m, m = l.length := ⟨_, rfl⟩
  rw [← hm] at hlv
  clear hm
  subst hlv
  have Hl := Lib.hid hl
  have Hu := Lib.hid hu
  clear hl hu
  go_enter Tryd.func30, Tryd.ntmps30
  go_wp2_with (first | (go_at_call 31; refine (slEqual_c c l _ _ _ Hu.out Hl.out).mono ?_; rintro e w2 ⟨b2, rfl, hb2, hx2⟩))
  go_ret
  exact ⟨b2, rfl, hb2, hx2⟩
set_option maxRecDepth 100000 in
set_option maxHeartbeats 1000000 in
theorem icIdx_t (l : List Int) (b : Nat) (lv v : Value) (us : List Value) (ls : List (List Int)) (B : Nat) (w : World) (hR : Lss w B v us ls) (hb : w.cell? ⟨b, 0, none⟩ = some lv) (hl : Ints w lv l) (hlen : ls.length ≤ 1000000000) (hin : l ∈ ls) :
    Calls Tryd.prog 39 #[v, .func (.func 30) #[] #[.pointer (some ⟨b, 0, none⟩)]] w (fun e w' => ∃ n : Nat, n ≤ 1000000000 ∧ e = .returned (.int .i64 n) ∧ Ext w w') := by
  obtain ⟨A, c, hv, hn, _⟩ := hR.form
  have HR := Lib.hid hR
  have Hul := Lib.hid hR.2.1
  obtain ⟨q, hq⟩ : ∃ q, q = us.length := ⟨_, rfl⟩
  rw [← hq] at hv hn
  have Hq := Lib.hid hq
  have hq24 : q ≤ 1000000000 := by rw [hq, hR.2.1]; exact hlen
  subst hv
  have Hb := Lib.hid hb
  have Hl := Lib.hid hl
  have Hin := Lib.hid hin
  clear hR hq hb hl hin
  go_enter Tryd.func39, Tryd.ntmps39
  go_wp2
  go_loopw [8] (fun i wr => ∃ j : Nat, j ≤ q ∧ i = .int .i64 j ∧ Hid (l ∉ ls.take j ∧ Ext w wr)) (fun i _ => q - (intOf i).toNat)
  case atStart => exact ⟨0, Nat.zero_le _, rfl, by simp, Below.refl _ _⟩
  case round =>
    obtain ⟨j, hj, rfl, hr⟩ := hrel
    by_cases hjq : j < q
    · obtain ⟨g, cc, he, _, _, _⟩ := HR.out.shape (by rw [← Hq.out]; omega)
      rw [← Hq.out] at he
      obtain ⟨rfl, rfl⟩ : A = some ⟨g, 0, none⟩ ∧ c = cc := by simp only [Value.slice.injEq] at he; exact ⟨he.1, he.2.2⟩
      obtain ⟨u, hu⟩ : ∃ u, us[j]? = some u := ⟨_, List.getElem?_eq_getElem (by rw [← Hq.out]; exact hjq)⟩
      obtain ⟨d, hd⟩ : ∃ d, ls[j]? = some d := ⟨_, List.getElem?_eq_getElem (by rw [← Hul.out, ← Hq.out]; exact hjq)⟩
      have ho := (HR.out.2.2.1 j u d hu hd).ext hr.out.2
      have hcu := hr.out.2.cell_of (HR.out.cell hu)
      obtain ⟨A4, c4, hu4, _, _⟩ := ho.slice
      obtain ⟨m4, hm4⟩ : ∃ m4, m4 = d.length := ⟨_, rfl⟩
      rw [← hm4] at hu4
      clear hm4
      subst hu4
      have hjq2 : (j : Int) < (q : Int) := by omega
      have Ho := Lib.hid ho
      by_cases hdl : d = l
      · have Hdl := Lib.hid hdl
        clear he hu hd ho hdl
        go_wp2_with (first | (go_at_call 30; refine (icCl_c l d b lv _ _ (hr.out.2.cell_of Hb.out) (Hl.out.ext hr.out.2) Ho.out.ints).mono ?_; rintro e w2 ⟨b2, rfl, hb2, hx2⟩; obtain rfl := hb2.2 Hdl.out; clear hb2))
        go_ret
        exact ⟨j, by omega, rfl, hr.out.2.tr hx2⟩
      · have Hdl := Lib.hid hdl
        have Hn := Lib.hid (not_take_succ hr.out.1 hd hdl)
        clear he hu hd ho hdl
        go_wp2_with (first | (go_at_call 30; refine (icCl_c l d b lv _ _ (hr.out.2.cell_of Hb.out) (Hl.out.ext hr.out.2) Ho.out.ints).mono ?_; rintro e w2 ⟨b2, rfl, hb2, hx2⟩; obtain rfl := bool_f hb2 Hdl.out; clear hb2))
        go_roundw
        case rel => exact ⟨j + 1, by omega, by go_num, Hn.out, hr.out.2.tr hx2⟩
        case measure => simp [intOf]; omega
    · exfalso
      obtain rfl : j = q := by omega
      have h := hr.out.1
      rw [List.take_of_length_le (by rw [Hq.out, Hul.out]; exact Nat.le_refl _)] at h
      exact h Hin.out
set_option maxRecDepth 100000 in
set_option maxHeartbeats 1000000 in
theorem icIdx_f (l : List Int) (b : Nat) (lv v : Value) (us : List Value) (ls : List (List Int)) (B : Nat) (w : World) (hR : Lss w B v us ls) (hb : w.cell? ⟨b, 0, none⟩ = some lv) (hl : Ints w lv l) (hlen : ls.length ≤ 1000000000) (hin : ¬ l ∈ ls) :
    Calls Tryd.prog 39 #[v, .func (.func 30) #[] #[.pointer (some ⟨b, 0, none⟩)]] w (RI (-1) w) := by
  obtain ⟨A, c, hv, hn, _⟩ := hR.form
  have HR := Lib.hid hR
  have Hul := Lib.hid hR.2.1
  obtain ⟨q, hq⟩ : ∃ q, q = us.length := ⟨_, rfl⟩
  rw [← hq] at hv hn
  have Hq := Lib.hid hq
  have hq24 : q ≤ 1000000000 := by rw [hq, hR.2.1]; exact hlen
  subst hv
  have Hb := Lib.hid hb
  have Hl := Lib.hid hl
  have Hin := Lib.hid hin
  clear hR hq hb hl hin
  go_enter Tryd.func39, Tryd.ntmps39
  go_wp2
  go_loopw [8] (fun i wr => ∃ j : Nat, j ≤ q ∧ i = .int .i64 j ∧ Hid (Ext w wr)) (fun i _ => q - (intOf i).toNat)
  case atStart => exact ⟨0, Nat.zero_le _, rfl, Below.refl _ _⟩
  case round =>
    obtain ⟨j, hj, rfl, hr⟩ := hrel
    by_cases hjq : j < q
    · obtain ⟨g, cc, he, _, _, _⟩ := HR.out.shape (by rw [← Hq.out]; omega)
      rw [← Hq.out] at he
      obtain ⟨rfl, rfl⟩ : A = some ⟨g, 0, none⟩ ∧ c = cc := by simp only [Value.slice.injEq] at he; exact ⟨he.1, he.2.2⟩
      obtain ⟨u, hu⟩ : ∃ u, us[j]? = some u := ⟨_, List.getElem?_eq_getElem (by rw [← Hq.out]; exact hjq)⟩
      obtain ⟨d, hd⟩ : ∃ d, ls[j]? = some d := ⟨_, List.getElem?_eq_getElem (by rw [← Hul.out, ← Hq.out]; exact hjq)⟩
      have ho := (HR.out.2.2.1 j u d hu hd).ext hr.out
      have hcu := hr.out.cell_of (HR.out.cell hu)
      obtain ⟨A4, c4, hu4, _, _⟩ := ho.slice
      obtain ⟨m4, hm4⟩ : ∃ m4, m4 = d.length := ⟨_, rfl⟩
      rw [← hm4] at hu4
      clear hm4
      subst hu4
      have hjq2 : (j : Int) < (q : Int) := by omega
      have Ho := Lib.hid ho
      have Hdl : Hid (¬ d = l) := fun e => Hin.out (by rw [← e]; exact List.mem_of_getElem? hd)
      clear he hu hd ho
      go_wp2_with (first | (go_at_call 30; refine (icCl_c l d b lv _ _ (hr.out.cell_of Hb.out) (Hl.out.ext hr.out) Ho.out.ints).mono ?_; rintro e w2 ⟨b2, rfl, hb2, hx2⟩; obtain rfl := bool_f hb2 Hdl.out; clear hb2))
      go_roundw
      case rel => exact ⟨j + 1, by omega, by go_num, hr.out.tr hx2⟩
      case measure => simp [intOf]; omega
    · obtain rfl : j = q := by omega
      go_wp2
      go_ret
      exact ⟨rfl, hr.out⟩
set_option maxRecDepth 100000 in
theorem icCon_c (l : List Int) (b : Nat) (lv v : Value) (us : List Value) (ls : List (List Int)) (B : Nat) (w : World) (hR : Lss w B v us ls) (hb : w.cell? ⟨b, 0, none⟩ = some lv) (hl : Ints w lv l) (hlen : ls.length ≤ 1000000000) :
    Calls Tryd.prog 28 #[v, .func (.func 30) #[] #[.pointer (some ⟨b, 0, none⟩)]] w (RB (l ∈ ls) w) := by
  have HR := Lib.hid hR
  have Hb := Lib.hid hb
  have Hl := Lib.hid hl
  clear hR hb hl
  by_cases hin : l ∈ ls
  · have Hin := Lib.hid hin
    clear hin
    go_enter Tryd.func28, Tryd.ntmps28
    go_wp2_with (first | (go_at_call 39; refine (icIdx_t l b lv v us ls B _ HR.out Hb.out Hl.out hlen Hin.out).mono ?_; rintro e w2 ⟨n2, hn2, rfl, hx2⟩; have hn0 : (0 : Int) ≤ (n2 : Int) := (by omega)))
    go_ret
    exact RB.t Hin.out hx2
  · have Hin := Lib.hid hin
    clear hin
    go_enter Tryd.func28, Tryd.ntmps28
    go_wp2_with (first | (go_at_call 39; refine (icIdx_f l b lv v us ls B _ HR.out Hb.out Hl.out hlen Hin.out).mono ?_; rintro e w2 ⟨rfl, hx2⟩))
    go_ret
    exact RB.f Hin.out hx2
set_option maxRecDepth 100000 in
set_option maxHeartbeats 1000000 in
theorem isCover_c (p : List Int) (n : Int) (l : List Int) (v u : Value) (w : World) (hv : Ints w v p) (hn : I64 n) (hu : Ints w u l) (ht : TabAt 1 Lib.deBruijn64tab w) : Calls Tryd.prog 8 #[v, .int .i64 n, u] w (RB (IsCov p n l) w) := by
  unfold I64 at hn
  obtain ⟨A, c, hue, _, _⟩ := hu.form0
  obtain ⟨m, hm⟩ : ∃ m, m = l.length := ⟨_, rfl⟩
  rw [← hm] at hue
  clear hm
  subst hue
  have hx0 := one_boxC w (.cells #[.slice A m c] 22)
  have hb0 : Blk (w.alloc (.cells #[.slice A m c] 22)) w.heap.size 22 #[.slice A m c] := Blk.new w _ _
  have Hv := Lib.hid (hv.ext hx0)
  have Hu := Lib.hid (hu.ext hx0)
  have Ht := Lib.hid (TabAt.ext ht hx0)
  have Hx0 := Lib.hid hx0
  have Hb0 := Lib.hid hb0
  clear hv ht hu hx0 hb0
  by_cases hp : PatOk p
  · have Hp := Lib.hid hp
    by_cases hn1 : 0 ≤ n ∧ n ≤ 24
    · obtain ⟨k, rfl⟩ : ∃ k : Nat, n = k := ⟨n.toNat, by omega⟩
      have hk : k ≤ 24 := by omega
      have H : Hid (IsCov p (k : Int) l ↔ l ∈ cvs p k) := by unfold Hid; rw [IsCov.nat]; exact ⟨fun h => h.2.2, fun h => ⟨hp, hk, h⟩⟩
      have Hlen := Lib.hid (cvs_len p k hk)
      clear hp
      go_enter Tryd.func8, Tryd.ntmps8
      go_wp2_with (first | (go_at_call 26; refine (patternOk_c p _ _ Hv.out).mono ?_; rintro e w1 ⟨b, rfl, hb, rfl⟩; obtain rfl := hb.2 Hp.out; clear hb) | (go_at_call 27; refine (within_t _ ?_).mono ?_; (focus omega); rintro e w1 ⟨rfl, rfl⟩) | (go_at_call 29; refine (covers_c p k _ _ Hv.out Hp.out (by omega) Ht.out).mono ?_; rintro e w1 ⟨v1, usv1, rfl, ho1, hx1⟩; (obtain ⟨A1, c1, hv1, _, _⟩ := ho1.form; obtain ⟨m1, hm1⟩ : ∃ m1, m1 = usv1.length := ⟨_, rfl⟩; rw [← hm1] at hv1; subst hv1; clear hm1; have Ho1 := Lib.hid ho1; clear ho1)) | (go_at_call 28; refine (icCon_c l w.heap.size _ _ usv1 (cvs p k) _ _ Ho1.out (Hb0.out.ext hx1).cell0 (Hu.out.ext hx1) (Nat.le_trans Hlen.out (by omega))).mono ?_; rintro e w2 ⟨b2, rfl, hb2, hx2⟩))
      go_ret
      exact ⟨b2, rfl, by rw [H.out]; exact hb2, Hx0.out.tr (hx1.tr hx2)⟩
    · have H : Hid (¬ IsCov p n l) := fun h => hn1 ⟨h.2.1, h.2.2.1⟩
      clear hp
      go_enter Tryd.func8, Tryd.ntmps8
      go_wp2_with (first | (go_at_call 26; refine (patternOk_c p _ _ Hv.out).mono ?_; rintro e w1 ⟨b, rfl, hb, rfl⟩; obtain rfl := hb.2 Hp.out; clear hb) | (go_at_call 27; refine (within_f _ ?_).mono ?_; (focus omega); rintro e w1 ⟨rfl, rfl⟩))
      go_ret
      exact RB.f H.out Hx0.out
  · have H : Hid (¬ IsCov p n l) := fun h => hp h.1
    have Hp := Lib.hid hp
    clear hp
    go_enter Tryd.func8, Tryd.ntmps8
    go_wp2_with (first | (go_at_call 26; refine (patternOk_c p _ _ Hv.out).mono ?_; rintro e w1 ⟨b, rfl, hb, rfl⟩; obtain rfl := bool_f hb Hp.out; clear hb))
    go_ret
    exact RB.f H.out Hx0.out
end Go.Proofs.YtpnbcgnbkanebaaDoor
