/- Contracts: MetersOf on both sides. -/
import Derived.Test.YtblkddjljncggaaFmts
import Derived.Test.YtblkddjljncggaaFa
namespace Go.Proofs.Ytblkddjljncggaa
open Go.RowKit
def metOk (n : Int) : Prop := 2 ≤ n ∧ n ≤ 24
instance (n : Int) : Decidable (metOk n) := by unfold metOk; infer_instance
/-- the meters of a size -/
def metL (n : Int) : List (List Int) := if metOk n then mts 5 n.toNat [] else []
theorem metL_t {n : Nat} (h : metOk n) : metL n = mts 5 n [] := by unfold metL; rw [if_pos h]; simp
theorem metL_f {n : Int} (h : ¬ metOk n) : metL n = [] := if_neg h
theorem metL_len (n : Int) : (metL n).length ≤ 1000000 := by
  unfold metL
  split
  · exact Nat.le_trans (mts_len 5 _ _) (by decide)
  · exact Nat.zero_le _
theorem metL_all (n : Int) : ∀ r ∈ metL n, r.length ≤ 1000 := by
  unfold metL
  split
  · intro r hr
    have := mts_mem 5 _ _ r hr
    simp only [List.length_nil] at this
    omega
  · intro r hr
    simp at hr
theorem metersOf_c (n : Int) (w : World) : Calls Try.prog 18 #[.int .i64 n] w (RLs (metL n) w) := by
  by_cases h : metOk n
  · obtain ⟨m, rfl⟩ : ∃ m : Nat, n = m := ⟨n.toNat, by have := h.1; omega⟩
    have H := Lib.hid (metL_t h)
    have h1 : 2 ≤ m ∧ m ≤ 24 := by unfold metOk at h; omega
    obtain ⟨h2, h24⟩ := h1
    clear h
    go_enter Try.func18, Try.ntmps18
    go_wp2_with (first | (go_at_call 38; refine (within_t _ ?_).mono ?_; (focus omega); rintro e w1 ⟨rfl, rfl⟩) | (go_at_call 44; refine (metersFrom_c 5 m [] _ _ (Own.nil _ 0).ints rfl (by omega) h24).mono ?_; rintro e w1 ⟨v1, us1, rfl, hL1, hx1⟩; obtain ⟨A1, c1, rfl, _, _⟩ := hL1.form))
    go_ret
    exact ⟨_, us1, rfl, by rw [H.out]; exact hL1, hx1⟩
  · have H := Lib.hid (metL_f h)
    have Hn : Hid (¬ (2 ≤ n ∧ n ≤ 24)) := h
    clear h
    go_enter Try.func18, Try.ntmps18
    go_wp2_with (first | (go_at_call 38; refine (within_f _ Hn.out).mono ?_; rintro e w1 ⟨rfl, rfl⟩))
    go_ret
    exact ⟨_, [], rfl, by rw [H.out]; exact Lss.nil _ _, Below.refl _ _⟩
theorem specMetersOf_c (n : Int) (w : World) : Calls Try.prog 17 #[.int .i64 n] w (RLs (metL n) w) := by
  by_cases h : metOk n
  · obtain ⟨m, rfl⟩ : ∃ m : Nat, n = m := ⟨n.toNat, by have := h.1; omega⟩
    have H := Lib.hid (metL_t h)
    have h1 : 2 ≤ m ∧ m ≤ 24 := by unfold metOk at h; omega
    obtain ⟨h2, h24⟩ := h1
    have hL : Hid (Lss ((w.alloc (.cells #[] 3)).alloc (.cells #[] 22)) w.heap.size (.slice (some ⟨w.heap.size + 1, 0, none⟩) 0 0) [] []) := by
      have := Lss.empty (w := w.alloc (.cells #[] 3)) (B := w.heap.size) (by simp)
      simp only [World.size_alloc] at this
      exact this
    have hV : Hid (Own ((w.alloc (.cells #[] 3)).alloc (.cells #[] 22)) w.heap.size (.slice (some ⟨w.heap.size, 0, none⟩) 0 0) []) := (Own.empty (Nat.le_refl _)).alloc _
    have hA : Hid (Apart (.slice (some ⟨w.heap.size, 0, none⟩) 0 0) (.slice (some ⟨w.heap.size + 1, 0, none⟩) 0 0)) := by
      unfold Hid Apart
      right
      simp [Value.ownBlock]
    have hX : Hid (Ext w ((w.alloc (.cells #[] 3)).alloc (.cells #[] 22))) := Ext.tr (one_box w _) (one_box _ _)
    clear h
    go_enter Try.func17, Try.ntmps17
    go_wp2_with (first | (go_at_call 36; refine (l01In_t _ ?_).mono ?_; (focus omega); rintro e w1 ⟨rfl, rfl⟩) | (go_at_call 43; refine (l18Meters_c 5 m [] _ _ w.heap.size _ [] [] hV.out hL.out hA.out (fun u hu => by simp at hu) (by decide) hX.out.size rfl (by omega) h24).mono ?_; rintro e w1 ⟨v1, us1, rfl, hL1, hg1, hat1⟩; obtain ⟨A1, c1, rfl, _, _⟩ := hL1.form))
    go_ret
    exact ⟨_, us1, rfl, by rw [H.out]; exact hL1, hX.out.trans ((Below.refl _ _).grown hg1 hX.out.size fun k hk => (hL.out.1.lt k hk).1)⟩
  · have H := Lib.hid (metL_f h)
    have Hn : Hid (¬ (2 ≤ n ∧ n ≤ 24)) := h
    clear h
    go_enter Try.func17, Try.ntmps17
    go_wp2_with (first | (go_at_call 36; refine (l01In_f _ Hn.out).mono ?_; rintro e w1 ⟨rfl, rfl⟩))
    go_ret
    exact ⟨_, [], rfl, by rw [H.out]; exact Lss.nil _ _, Below.refl _ _⟩
end Go.Proofs.Ytblkddjljncggaa
