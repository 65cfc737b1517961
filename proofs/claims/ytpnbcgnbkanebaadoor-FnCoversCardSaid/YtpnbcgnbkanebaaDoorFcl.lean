/- Contract: slices.Clone at []int. -/
import Derived.Test.YtpnbcgnbkanebaaDoorMem
import Derived.Test.YtpnbcgnbkanebaaDoorShelf
import Derived.Lib.OwnBridge
import Derived.Lib.RowBridge
namespace Go.Proofs.YtpnbcgnbkanebaaDoor
open Go.RowKit
/-- an address behind which ints can be read has no spot -/
theorem Ints.plainV {w : World} {ad : Addr} {n c : Nat} {l : List Int} (h : Ints w (.slice (some ad) n c) l) (hl : 0 < l.length) : ∃ b o, ad = ⟨b, o, none⟩ ∧ ∀ j, j < l.length → w.cell? ⟨b, o + j, none⟩ = some (.int .i64 (l.getD j 0)) := by
  have h0 := h.cell (get_of_lt hl)
  obtain ⟨b, o, sp⟩ := ad
  have hsp : sp = none := by simpa [Addr.add] using World.cell?_spot h0
  subst hsp
  refine ⟨b, o, rfl, fun j hj => ?_⟩
  have := h.cell (get_of_lt hj)
  rw [← this]
  congr 1
  unfold Addr.add
  split <;> simp_all
set_option maxRecDepth 100000 in
theorem slCloneV_c (l : List Int) (v : Value) (w : World) (hv : Ints w v l) (hlen : l.length ≤ 1000000000) : Calls Tryd.prog 42 #[v] w (RL l w) := by
  have hr : ∀ x ∈ l, I64 x := fun x hx => hv.i64 hx
  obtain ⟨A, c, hve, _, _⟩ := hv.form0
  by_cases h0 : l.length = 0
  · have hl : l = [] := List.eq_nil_of_length_eq_zero h0
    subst hl
    subst hve
    cases A with
    | none => exact (Tryd.slices_Clone_int_nil 0 c w).mono fun e w' ⟨he, hw⟩ => ⟨_, he, Own.nil _ _, by rw [hw]; exact Below.refl _ _⟩
    | some a => exact (Tryd.slices_Clone_int_zero a c w).mono fun e w' ⟨v', he, ho, _, hb⟩ => ⟨v', he, ⟨ho, hr⟩, hb⟩
  · obtain ⟨ad, c', hve2, _, _⟩ := hv.form (by omega)
    subst hve2
    obtain ⟨b, o, rfl, hc⟩ := hv.plainV (by omega)
    refine (Tryd.slices_Clone_int b o l.length c' l w (Nat.le_refl _) (by omega) hc).mono fun e w' ⟨v', he, ho, _, hb⟩ => ⟨v', he, ⟨?_, hr⟩, hb⟩
    rw [List.take_length] at ho
    exact ho
end Go.Proofs.YtpnbcgnbkanebaaDoor
