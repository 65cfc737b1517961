/- Plain fact: the rhythm of the beat 0 alone and that of all pulses tile. -/
import Derived.Test.YtjecdmlojgmbeaaGreatDoorPureJ
namespace Go.Proofs.YtjecdmlojgmbeaaGreatDoor
theorem til_fall {n : Nat} (hn : 1 ≤ n ∧ n ≤ 24) : TilOk n (rhL n [0]) (rhL n (layN n n n)) ∧ (rhL n (layN n n n))[0]? = some 0 := by
  have e1 : rhL n [0] = [0] := rhL_eq (by simp [Inc]) fun x hx => by simp at hx; omega
  have e2 : rhL n (layN n n n) = rng n := by
    refine inc_ext (rhL_inc _ _) (rng_inc n) fun x => ?_
    rw [mem_rhL, mem_rng]
    constructor
    · exact fun h => h.1
    · intro h
      refine ⟨h, ?_⟩
      obtain ⟨z, rfl⟩ := Int.eq_ofNat_of_zero_le h.1
      unfold layN
      rw [List.mem_map]
      exact ⟨z, List.mem_range.2 (by omega), by rw [Nat.mul_div_cancel _ (by omega)]⟩
  rw [e1, e2]
  have h1 : RhyOk n [0] := ⟨by omega, by simp [Inc], fun x hx => by simp at hx; omega⟩
  have h2 : RhyOk n (rng n) := ⟨by omega, rng_inc n, fun x hx => mem_rng.1 hx⟩
  refine ⟨til_of h1 h2 (by rw [rng_len]; simp) fun t ht => vc_pos.2 ⟨t, mem_rng.2 (by omega), by rw [Int.sub_self]; simp⟩, ?_⟩
  rw [rng_get (by omega)]; rfl
end Go.Proofs.YtjecdmlojgmbeaaGreatDoor
