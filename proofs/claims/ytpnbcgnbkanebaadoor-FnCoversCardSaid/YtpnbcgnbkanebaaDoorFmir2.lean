/- Contracts: IsMirrorPattern on both sides. -/
import Derived.Test.YtpnbcgnbkanebaaDoorFmir
import Derived.Test.YtpnbcgnbkanebaaDoorFeq
namespace Go.Proofs.YtpnbcgnbkanebaaDoor
open Go.RowKit
def IsMir (l : List Int) : Prop := PatOk l ∧ mirL l = l
theorem isMir_c (l : List Int) (v : Value) (w : World) (hv : Ints w v l) : Calls Tryd.prog 17 #[v] w (RB (IsMir l) w) := by
  have Hv := Lib.hid hv
  clear hv
  by_cases hp : PatOk l
  · have Hp := Lib.hid hp
    clear hp
    go_enter Tryd.func17, Tryd.ntmps17
    go_wp2_with (first | (go_at_call 26; refine (patternOk_c l _ _ Hv.out).mono ?_; rintro e w1 ⟨b, rfl, hb, rfl⟩; obtain rfl := hb.2 Hp.out; clear hb) | (go_at_call 35; refine (mirL_c l _ _ Hv.out Hp.out).mono ?_; rintro e w1 ⟨v1, rfl, ho, hx⟩))
    go_wp2_with (first | (go_at_call 31; refine (slEqual_c (mirL l) l _ _ _ ho.ints (Hv.out.ext hx)).mono ?_; rintro e w2 ⟨b2, rfl, hb2, hx2⟩))
    go_ret
    exact ⟨b2, rfl, ⟨fun h => ⟨Hp.out, hb2.1 h⟩, fun h => hb2.2 h.2⟩, hx.tr hx2⟩
  · have Hf : Hid (¬ IsMir l) := fun h => hp h.1
    have Hp := Lib.hid hp
    clear hp
    go_enter Tryd.func17, Tryd.ntmps17
    go_wp2_with (first | (go_at_call 26; refine (patternOk_c l _ _ Hv.out).mono ?_; rintro e w1 ⟨b, rfl, hb, rfl⟩; obtain rfl := bool_f hb Hp.out; clear hb))
    go_ret
    exact RB.f Hf.out (Below.refl _ _)
end Go.Proofs.YtpnbcgnbkanebaaDoor
