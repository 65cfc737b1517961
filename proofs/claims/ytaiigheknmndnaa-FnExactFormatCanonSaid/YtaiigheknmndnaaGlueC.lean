/- From the row's own reading of a canon to what the walks ask. -/
import Derived.Test.YtaiigheknmndnaaGlueR
import Derived.Test.YtaiigheknmndnaaCan
namespace Go.Proofs.Ytaiigheknmndnaa
open Go.ChangeShapes Go.WideShapes Go.ChangeAt Go.RowKit
theorem cellsR : Try.prog.cellsOf 24 = 2 := by kernel_rfl
theorem cellsI : Try.prog.cellsOf 3 = 1 := by kernel_rfl
theorem cellsL : Try.prog.cellsOf 22 = 1 := by kernel_rfl
theorem cellsC : Try.prog.cellsOf 26 = 4 := by kernel_rfl
set_option maxRecDepth 100000 in
theorem rhy_of {H : Type} {enc : TypeId × Value → H} {W : World} {base fuel : Nat} {c0 c1 : Value} {x : DataW H × List MemPlace}
    (hf : DataW.trod enc Try.prog W base (fun _ => true) true fuel 24 [c0, c1] = some x) : ∃ n l, c0 = .int .i64 n ∧ I64 n ∧ Ints W c1 l := by
  obtain ⟨y0, y1, k, _, _, h0, h1⟩ := trod_struct2 Try.underlying24 hf
  have h0' : DataW.trod enc Try.prog W base (fun _ => true) true k 3 [c0] = some y0 := by simpa [cellsI] using h0
  have h1' : DataW.trod enc Try.prog W base (fun _ => true) true k 22 [c1] = some y1 := by simpa [cellsL] using h1
  obtain ⟨n, hn, _, hw⟩ := DataW.trod_int Try.underlying3 h0'
  obtain rfl : c0 = .int .i64 n := by simpa using hn
  obtain ⟨l, hl⟩ := ints_of h1'
  exact ⟨n, l, rfl, I64.of_wf hw, hl⟩
set_option maxRecDepth 100000 in
theorem can_in {H : Type} {enc : TypeId × Value → H} {W : World} {base : Nat} {v : Value} {d : DataW H} {p : List MemPlace}
    (hv : Value.okWide Try.prog W .any base 26 v) (h : DataW.Trod enc Try.prog W 0 (fun _ => true) true 26 v d p) :
    ∃ n u l m u' l', v = .agg #[.int .i64 n, u, .int .i64 m, u'] ∧ I64 n ∧ Ints W u l ∧ I64 m ∧ Ints W u' l' := by
  obtain ⟨cs, rfl, hsz⟩ := okWide_struct Try.underlying26 hv
  obtain ⟨c0, c1, c2, c3, rfl⟩ := Joins.array4 (hsz.trans cellsC)
  obtain ⟨fuel, hf⟩ := h
  obtain ⟨y0, y1, k, _, _, h0, h1⟩ := trod_struct2 Try.underlying26 hf
  have h0' : DataW.trod enc Try.prog W 0 (fun _ => true) true k 24 [c0, c1] = some y0 := by simpa [cellsR, Value.cells] using h0
  have h1' : DataW.trod enc Try.prog W 0 (fun _ => true) true k 24 [c2, c3] = some y1 := by simpa [cellsR, Value.cells] using h1
  obtain ⟨n, l, rfl, hn, hl⟩ := rhy_of h0'
  obtain ⟨m, l', rfl, hm, hl'⟩ := rhy_of h1'
  exact ⟨n, c1, l, m, c3, l', rfl, hn, hl, hm, hl'⟩
end Go.Proofs.Ytaiigheknmndnaa
