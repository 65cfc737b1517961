/- Contract: l02Has: is a number in a list. -/
import Derived.Test.YtjecdmlojgmbeaaGreatDoorMem
namespace Go.Proofs.YtjecdmlojgmbeaaGreatDoor
open Go.RowKit
theorem l02Has_c (l : List Int) (x : Int) (v : Value) (w : World) (hv : Ints w v l) : Calls Tryz.prog 49 #[v, .int .i64 x] w (RBs (x ∈ l) w) := by
  have hlen := hv.len
  obtain ⟨A, c, rfl, hlc, hcm⟩ := hv.form0
  have Hv := Lib.hid hv
  clear hv
  go_enter Tryz.func49, Tryz.ntmps49
  go_wp2
  go_loop [9] (fun i => ∃ k : Nat, k ≤ l.length ∧ i = .int .i64 k ∧ Hid (¬ x ∈ l.take k)) (fun i => l.length - (intOf i).toNat)
  case atStart => exact ⟨0, Nat.zero_le _, rfl, by simp [Hid]⟩
  case round =>
    obtain ⟨k, hk, rfl, hno⟩ := hrel
    by_cases hkl : k < l.length
    · obtain ⟨ad, c', hA, _, _⟩ := Hv.out.form (by omega)
      obtain ⟨rfl, rfl⟩ : A = some ad ∧ c = c' := by simpa using hA
      obtain ⟨y, hy⟩ : ∃ y, l[k]? = some y := ⟨_, List.getElem?_eq_getElem (by omega)⟩
      have hc := Hv.out.cell hy
      have Hy := Lib.hid hy
      clear hy hA
      by_cases hxy : x = y
      · have hb : ((x : Int) == y) = true := by simp [hxy]
        have hb' : ((y : Int) == x) = true := by simp [hxy]
        have Ht : Hid (x ∈ l) := by unfold Hid; rw [hxy]; exact List.mem_of_getElem? Hy.out
        clear hxy
        go_wp2
        go_ret
        exact RBs.t Ht.out
      · have hb : ((x : Int) == y) = false := by simp [hxy]
        have hb' : ((y : Int) == x) = false := by rw [beq_eq_false_iff_ne]; exact fun e => hxy e.symm
        have Hn : Hid (¬ x ∈ l.take (k + 1)) := by
          unfold Hid
          rw [take_succ Hy.out, List.mem_append]
          rintro (h | h)
          · exact hno.out h
          · simp at h; exact hxy h
        clear hxy
        go_wp2
        go_round
        case rel => exact ⟨k + 1, by omega, by go_num, Hn⟩
        case measure => simp [intOf]; omega
    · have Hk : Hid (k = l.length) := by show k = _; omega
      go_wp2
      go_ret
      have := hno.out
      rw [Hk.out, List.take_length] at this
      exact RBs.f this
theorem lawHas_c (l : List Int) (x : Int) (v : Value) (w : World) (hv : Ints w v l) : Calls Tryz.prog 20 #[v, .int .i64 x] w (RBs (x ∈ l) w) := by
  have hlen := hv.len
  obtain ⟨A, c, rfl, hlc, hcm⟩ := hv.form0
  have Hv := Lib.hid hv
  clear hv
  go_enter Tryz.func20, Tryz.ntmps20
  go_wp2
  go_loop [9] (fun i => ∃ k : Nat, k ≤ l.length ∧ i = .int .i64 k ∧ Hid (¬ x ∈ l.take k)) (fun i => l.length - (intOf i).toNat)
  case atStart => exact ⟨0, Nat.zero_le _, rfl, by simp [Hid]⟩
  case round =>
    obtain ⟨k, hk, rfl, hno⟩ := hrel
    by_cases hkl : k < l.length
    · obtain ⟨ad, c', hA, _, _⟩ := Hv.out.form (by omega)
      obtain ⟨rfl, rfl⟩ : A = some ad ∧ c = c' := by simpa using hA
      obtain ⟨y, hy⟩ : ∃ y, l[k]? = some y := ⟨_, List.getElem?_eq_getElem (by omega)⟩
      have hc := Hv.out.cell hy
      have Hy := Lib.hid hy
      clear hy hA
      by_cases hxy : x = y
      · have hb : ((x : Int) == y) = true := by simp [hxy]
        have hb' : ((y : Int) == x) = true := by simp [hxy]
        have Ht : Hid (x ∈ l) := by unfold Hid; rw [hxy]; exact List.mem_of_getElem? Hy.out
        clear hxy
        go_wp2
        go_ret
        exact RBs.t Ht.out
      · have hb : ((x : Int) == y) = false := by simp [hxy]
        have hb' : ((y : Int) == x) = false := by rw [beq_eq_false_iff_ne]; exact fun e => hxy e.symm
        have Hn : Hid (¬ x ∈ l.take (k + 1)) := by
          unfold Hid
          rw [take_succ Hy.out, List.mem_append]
          rintro (h | h)
          · exact hno.out h
          · simp at h; exact hxy h
        clear hxy
        go_wp2
        go_round
        case rel => exact ⟨k + 1, by omega, by go_num, Hn⟩
        case measure => simp [intOf]; omega
    · have Hk : Hid (k = l.length) := by show k = _; omega
      go_wp2
      go_ret
      have := hno.out
      rw [Hk.out, List.take_length] at this
      exact RBs.f this
end Go.Proofs.YtjecdmlojgmbeaaGreatDoor
