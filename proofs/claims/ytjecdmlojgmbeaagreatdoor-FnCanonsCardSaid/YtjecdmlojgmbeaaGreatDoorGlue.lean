/- From the row's own reading of its arguments to what the walks ask. -/
import Derived.Test.YtjecdmlojgmbeaaGreatDoorRows
import Derived.Test.YtjecdmlojgmbeaaGreatDoorMem
import Derived.ProofKit
import Derived.OpenShut
import Derived.ShutString
import Derived.ChangeOld
namespace Go.Proofs.YtjecdmlojgmbeaaGreatDoor
open Go.ChangeShapes Go.WideShapes Go.ChangeAt Go.RowKit

theorem own : ownKnob Tryz.prog.godebug = none := by kernel_rfl
theorem laidOut : laidOutB Tryz.prog = true := by kernel_rfl

theorem I64.of_wf {n : Int} (h : (Lit.int .i64 n).wf = true) : I64 n := by
  have := bounds_i64 h
  unfold I64
  omega

set_option maxRecDepth 100000 in
theorem ints_in {H : Type} {enc : TypeId × Value → H} {W : World} {base : Nat} {v : Value} {d : DataW H} {p : List MemPlace}
    (hv : Value.okWide Tryz.prog W .any base 23 v) (h : DataW.Trod enc Tryz.prog W 0 (fun _ => true) true 23 v d p) : ∃ l, Ints W v l := by
  obtain ⟨a0, len0, cap0, rfl⟩ := okWide_slice Tryz.underlying23 hv
  obtain ⟨fuel, hf⟩ := h
  rcases open_ints Tryz.underlying23 Tryz.underlying3 (by kernel_rfl) hf with ⟨hcs, _⟩ | ⟨x, l, c, zs, hcs, _, hl, hm, hz, _, hcell, hwz⟩
  · simp [Value.cells] at hcs
    obtain ⟨rfl, rfl, rfl⟩ := hcs
    exact ⟨[], Ints.nil W⟩
  · simp [Value.cells] at hcs
    obtain ⟨rfl, rfl, rfl⟩ := hcs
    simp only [if_true] at hz
    refine ⟨zs.take len0, some x, cap0, by rw [List.length_take, Nat.min_eq_left (by omega)], by rw [List.length_take]; omega, hm, fun k y hy => ?_⟩
    obtain ⟨hk, hy'⟩ := List.getElem?_eq_some_iff.1 hy
    have hk' : k < len0 := by simp at hk; omega
    rw [List.getElem_take] at hy'
    have hkz : k < zs.length := by omega
    refine ⟨I64.of_wf (hwz y (by rw [← hy']; exact List.getElem_mem _)), x, rfl, ?_⟩
    rw [hcell k hkz]
    have : zs.getD k 0 = y := by rw [← hy']; simp [List.getD, hkz]
    rw [this]
end Go.Proofs.YtjecdmlojgmbeaaGreatDoor
