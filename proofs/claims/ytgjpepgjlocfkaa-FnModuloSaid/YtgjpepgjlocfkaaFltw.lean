/- Contracts: LeastTwo on both sides. -/
import Derived.Test.YtgjpepgjlocfkaaFetw
namespace Go.Proofs.Ytgjpepgjlocfkaa
open Go.RowKit
def ltwGo (l : List Int) : Nat → Nat → Nat
  | 0, _ => 0
  | f + 1, n => if etwOk l n = true then n else ltwGo l f (n + 1)
def ltwI (l : List Int) : Int := ltwGo l 40 1
theorem leastTwo_c (l : List Int) (v : Value) (w : World) (hv : Ints w v l) : Calls Try.prog 10 #[v] w (RI (ltwI l) w) := by
  have Hv := Lib.hid hv
  clear hv
  go_enter Try.func10, Try.ntmps10
  go_wp2
  go_loopw [3] (fun y wr => ∃ n : Nat, 1 ≤ n ∧ n ≤ 41 ∧ y = .int .i64 n ∧ Hid (ltwGo l (41 - n) n = ltwGo l 40 1) ∧ Ext w wr) (fun y _ => 42 - (intOf y).toNat)
  case atStart => exact ⟨1, by omega, by omega, rfl, rfl, Below.refl _ _⟩
  case round =>
    obtain ⟨n, hn1, hn2, rfl, hgo, hx⟩ := hrel
    by_cases hn : n ≤ 40
    · have Hf : Hid (41 - n = (40 - n) + 1) := by unfold Hid; omega
      have Hf2 : Hid (40 - n = 41 - (n + 1)) := by unfold Hid; omega
      obtain ⟨b, hb⟩ : ∃ b, etwOk l n = b := ⟨_, rfl⟩
      have Hb := Lib.hid hb
      cases b
      · have Hn : Hid (ltwGo l (41 - (n + 1)) (n + 1) = ltwGo l 40 1) := by
          unfold Hid
          rw [← hgo.out, Hf.out, ltwGo, if_neg (by rw [hb]; simp), Hf2.out]
        clear hb
        go_wp2_with (first | (go_at_call 11; refine (entriesTwo_c l ((n : Nat) : Int) _ _ (Hv.out.ext hx)).mono ?_; rintro e w2 ⟨v2, rfl, ho, hx2⟩; rw [Hb.out]))
        go_roundw
        case rel => exact ⟨n + 1, by omega, by omega, by go_num, Hn, hx.tr hx2⟩
        case measure => simp [intOf]; omega
      · have Hn : Hid (ltwGo l 40 1 = n) := by
          unfold Hid
          rw [← hgo.out, Hf.out, ltwGo, if_pos hb]
        clear hb
        go_wp2_with (first | (go_at_call 11; refine (entriesTwo_c l ((n : Nat) : Int) _ _ (Hv.out.ext hx)).mono ?_; rintro e w2 ⟨v2, rfl, ho, hx2⟩; rw [Hb.out]))
        go_ret
        exact ⟨by unfold ltwI; rw [Hn.out]; rfl, hx.tr hx2⟩
    · have Hn : Hid (ltwGo l 40 1 = 0) := by unfold Hid; rw [← hgo.out, show 41 - n = 0 by omega]; rfl
      go_wp2
      go_ret
      exact ⟨by unfold ltwI; rw [Hn.out]; rfl, hx⟩
end Go.Proofs.Ytgjpepgjlocfkaa
