/- From the row's own reading of a rhythm to what the walks ask. -/
import Derived.Test.YtaiigheknmndnaaGlue
import Derived.Test.YtaiigheknmndnaaRhy
import Derived.Lib.SmallJoins
namespace Go.Proofs.Ytaiigheknmndnaa
open Go.ChangeShapes Go.WideShapes Go.ChangeAt Go.RowKit
set_option maxRecDepth 100000 in
theorem ints_of {H : Type} {enc : TypeId × Value → H} {W : World} {base fuel : Nat} {v : Value} {x : DataW H × List MemPlace}
    (hf : DataW.trod enc Try.prog W base (fun _ => true) true fuel 22 [v] = some x) : ∃ l, Ints W v l := by
  rcases open_ints Try.underlying22 Try.underlying3 (by kernel_rfl) hf with ⟨hcs, _⟩ | ⟨x, l, c, zs, hcs, _, hl, hm, hz, _, hcell, hwz⟩
  · obtain rfl : v = .slice none 0 0 := by simpa using hcs
    exact ⟨[], Ints.nil W⟩
  · obtain rfl : v = .slice (some x) l c := by simpa using hcs
    simp only [if_true] at hz
    refine ⟨zs.take l, some x, c, by rw [List.length_take, Nat.min_eq_left (by omega)], by rw [List.length_take]; omega, hm, fun k y hy => ?_⟩
    obtain ⟨hk, hy'⟩ := List.getElem?_eq_some_iff.1 hy
    have hk' : k < l := by simp at hk; omega
    rw [List.getElem_take] at hy'
    have hkz : k < zs.length := by omega
    refine ⟨I64.of_wf (hwz y (by rw [← hy']; exact List.getElem_mem _)), x, rfl, ?_⟩
    rw [hcell k hkz]
    have : zs.getD k 0 = y := by rw [← hy']; simp [List.getD, hkz]
    rw [this]
set_option maxRecDepth 100000 in
theorem rhy_in {H : Type} {enc : TypeId × Value → H} {W : World} {base : Nat} {v : Value} {d : DataW H} {p : List MemPlace}
    (hv : Value.okWide Try.prog W .any base 24 v) (h : DataW.Trod enc Try.prog W 0 (fun _ => true) true 24 v d p) : ∃ n u l, v = .agg #[.int .i64 n, u] ∧ I64 n ∧ Ints W u l := by
  obtain ⟨v0, v1, y0, y1, m, rfl, _, _, h0, h1⟩ := Joins.open_agg2 Try.underlying24 (by kernel_rfl) (by kernel_rfl) hv h
  obtain ⟨n, hn, _, hw⟩ := DataW.trod_int Try.underlying3 h0
  obtain rfl : v0 = .int .i64 n := by simpa using hn
  obtain ⟨l, hl⟩ := ints_of h1
  exact ⟨n, v1, l, rfl, I64.of_wf hw, hl⟩
end Go.Proofs.Ytaiigheknmndnaa
