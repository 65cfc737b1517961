/- Contracts: FormatCanon on both sides. -/
import Derived.Test.YtjecdmlojgmbeaaGreatDoorFcn
import Derived.Test.YtjecdmlojgmbeaaGreatDoorFtxt
import Derived.Test.YtjecdmlojgmbeaaGreatDoorSss
import Derived.Test.YtjecdmlojgmbeaaGreatDoorFpha
namespace Go.Proofs.YtjecdmlojgmbeaaGreatDoor
open Go.RowKit
/-- the text of each voice -/
def fcN (n : Nat) (l r : List Int) : List ByteArray := r.map fun o => strOfNums (txU n (rotL n l o))
theorem fcN_len (n : Nat) (l r : List Int) : (fcN n l r).length = r.length := by simp [fcN]
theorem fcN_take {n j : Nat} {l r : List Int} {o : Int} (h : r[j]? = some o) : fcN n l (r.take (j + 1)) = fcN n l (r.take j) ++ [strOfNums (txU n (rotL n l o))] := by
  unfold fcN; rw [takeT' h]; simp
def fcL (n m : Int) (l r : List Int) : List ByteArray := if canOk n m l r then fcN n.toNat l r else []
theorem fcL_t {n : Nat} {m : Int} {l r : List Int} (h : canOk n m l r) : fcL n m l r = fcN n l r := by unfold fcL; rw [if_pos h]; simp
theorem fcL_f {n m : Int} {l r : List Int} (h : ¬ canOk n m l r) : fcL n m l r = [] := by unfold fcL; rw [if_neg h]
theorem fcL_len (n m : Int) (l r : List Int) : (fcL n m l r).length ≤ 100000 := by
  by_cases h : canOk n m l r
  · obtain ⟨nn, rfl, _, h24, _⟩ := h.1.1.nat
    obtain ⟨_, _, _, h24', hlen', _⟩ := h.1.2.1.nat
    rw [fcL_t h, fcN_len]; omega
  · rw [fcL_f h]; exact Nat.zero_le _
set_option maxRecDepth 100000 in
set_option maxHeartbeats 2000000 in
theorem formatCanon_c (n m : Int) (l r : List Int) (v u : Value) (w : World) (hv : Ints w v l) (hu : Ints w u r) : Calls Tryz.prog 16 #[.agg #[.int .i64 n, v, .int .i64 m, u]] w (RSs (fcL n m l r) w) := by
  obtain ⟨A, c, hve, _, _⟩ := hv.form0
  obtain ⟨A', c', hue, _, _⟩ := hu.form0
  obtain ⟨k, hk⟩ : ∃ k, k = l.length := ⟨_, rfl⟩
  obtain ⟨k', hk'⟩ : ∃ k', k' = r.length := ⟨_, rfl⟩
  rw [← hk] at hve
  rw [← hk'] at hue
  subst hve
  subst hue
  have hx := one_box w (.cells #[.int .i64 n, .slice A k c, .int .i64 m, .slice A' k' c'] 29)
  have ha := CVar.new (T := 29) w n (.slice A k c) m (.slice A' k' c')
  have Hk := Lib.hid hk
  have Hk' := Lib.hid hk'
  have Hv := Lib.hid (hv.ext hx)
  have Hu := Lib.hid (hu.ext hx)
  have Hx := Lib.hid hx
  have Ca := Lib.hid ha
  clear hv hu hx hk hk' ha
  have hc0 := Ca.out.c0
  have hc1 := Ca.out.c1
  have hc2 := Ca.out.c2
  have hc3 := Ca.out.c3
  by_cases hs : canOk n m l r
  · have Hs := Lib.hid hs
    obtain ⟨nn, hnn, hn1, hn24, hlen, hl⟩ := hs.1.1.nat
    obtain ⟨nn', hnn', _, _, hlen', hl'⟩ := hs.1.2.1.nat
    have hnm := hs.1.2.2
    subst hnm
    subst hnn
    obtain rfl : nn = nn' := by omega
    have H := Lib.hid (fcL_t hs)
    have hn' : 1 ≤ nn ∧ nn ≤ 24 := ⟨hn1, hn24⟩
    have Hr : Hid (r.length ≤ 24 ∧ ∀ x ∈ r, 0 ≤ x ∧ x ≤ 24) := ⟨by omega, fun x hx => by have := hl' x hx; omega⟩
    have Hl := Lib.hid hl
    have Hlen := Lib.hid hlen
    have hk24 : k' ≤ 24 := by rw [Hk'.out]; exact Hr.out.1
    clear hs hl hl' hlen hlen'
    go_enter Tryz.func16, Tryz.ntmps16
    go_wp2_with (first | (go_at_call 9; refine (canonOk_c (nn : Int) (nn : Int) l r _ _ _ Hv.out Hu.out).mono ?_; rintro e w3 ⟨b3, rfl, hb3, hx3⟩; (obtain rfl := hb3.2 Hs.out; clear hb3; have hg3 := (Ca.out.ext hx3).c3; have hg3' := (Ca.out.ext (hx3.tr (one_box w3 (.cells #[] 9)))).c3)))
    clear hc0 hc1 hc2 hc3 hg3 hg3'
    go_loopw [3, 13] (fun o i wr => ∃ (j : Nat) (us : List Value), j ≤ k' ∧ i = .int .i64 j ∧ Hid (Sss wr w3.heap.size o us (fcN nn l (r.take j)) ∧ Ext w3 wr)) (fun _ i _ => k' - (intOf i).toNat)
    case atStart => exact ⟨0, [], Nat.zero_le _, rfl, Sss.nil _ _, Below.refl w3.heap.size w3⟩
    case round =>
      obtain ⟨j, us, hj, rfl, hrel⟩ := hrel
      have C1 := Lib.hid (Ca.out.ext (hx3.tr hrel.out.2))
      have hc0 := C1.out.c0
      have hc1 := C1.out.c1
      by_cases hjk : j < k'
      · obtain ⟨ad, cc, hA, _, _⟩ := Hu.out.form (by rw [← Hk'.out]; omega)
        obtain ⟨rfl, rfl⟩ : A' = some ad ∧ c' = cc := by simp only [Value.slice.injEq] at hA; exact ⟨hA.1, hA.2.2⟩
        obtain ⟨x, hx⟩ : ∃ x, r[j]? = some x := ⟨_, List.getElem?_eq_getElem (by rw [← Hk'.out]; exact hjk)⟩
        have hcx := (Hu.out.ext (hx3.tr hrel.out.2)).cell hx
        have hxr := Hr.out.2 x (List.mem_of_getElem? hx)
        have hjk2 : (j : Int) < (k' : Int) := by omega
        have Hn := Lib.hid (fcN_take (n := nn) (l := l) hx)
        have hul : us.length ≤ 1000000 := by
          have h1 := hrel.out.1.len
          rw [fcN_len] at h1
          have h2 := List.length_take_le j r
          omega
        have hsz := hrel.out.2.size
        clear hx hA
        go_wp2_with (first | (go_at_call 23; refine (rotated_c nn l x _ _ (Hv.out.ext (hx3.tr hrel.out.2)) hn' Hl.out Hlen.out (by omega)).mono ?_; rintro e w4 ⟨v4, rfl, how4, hxw4⟩; obtain ⟨A4, n4, c4, rfl⟩ := how4.form) | (go_at_call 33; refine (text_c nn (rotL nn l x) _ _ (how4.ints) hn' (fun y hy => rotL_mem hy) (rotL_len nn l x)).mono ?_; rintro e w5 ⟨rfl, hx5⟩; have X5 : Hid (Ext wr w5) := hxw4.tr hx5) | (at_builtin; refine wp_appendStr rfl rfl (.tmp 17) (.tmp 23) rfl rfl rfl hrel.out.1 X5.out hul hsz ?_; intro v' w' ho hb))
        go_roundw
        case rel => exact ⟨j + 1, _, by omega, by go_num, by rw [Hn.out]; exact ho, hrel.out.2.trans hb⟩
        case measure => simp [intOf]; omega
      · obtain rfl : j = k' := by omega
        have ho := hrel.out.1
        rw [List.take_of_length_le (by rw [← Hk'.out]; exact Nat.le_refl _)] at ho
        have Ho := Lib.hid ho
        clear ho
        go_wp2
        go_ret
        exact ⟨_, us, rfl, by rw [H.out]; exact Ho.out.base (by have := (Hx.out.tr hx3).size; exact this), Hx.out.tr (hx3.tr hrel.out.2)⟩
  · have H := Lib.hid (fcL_f hs)
    have Hs := Lib.hid hs
    clear hs
    go_enter Tryz.func16, Tryz.ntmps16
    go_wp2_with (first | (go_at_call 9; refine (canonOk_c n m l r _ _ _ Hv.out Hu.out).mono ?_; rintro e w3 ⟨b3, rfl, hb3, hx3⟩; (obtain rfl := bool_f hb3 Hs.out; clear hb3)))
    go_ret
    exact ⟨_, [], rfl, by rw [H.out]; exact Sss.nil _ _, Hx.out.tr hx3⟩
end Go.Proofs.YtjecdmlojgmbeaaGreatDoor
