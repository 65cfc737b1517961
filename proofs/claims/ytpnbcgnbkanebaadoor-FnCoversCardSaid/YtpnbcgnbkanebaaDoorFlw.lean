/- Contracts of the laws' own helpers: before. -/
import Derived.Test.YtpnbcgnbkanebaaDoorMem
namespace Go.Proofs.YtpnbcgnbkanebaaDoor
open Go.RowKit
/-- a list comes before another, without being its beginning -/
def lexB : List Int → List Int → Bool
  | [], _ => false
  | _ :: _, [] => false
  | x :: a, y :: b => if x = y then lexB a b else decide (x < y)
theorem lexB_step {a b : List Int} {k : Nat} {x : Int} (hx : a[k]? = some x) : lexB (a.drop k) (b.drop k) = match b[k]? with | none => false | some y => if x = y then lexB (a.drop (k + 1)) (b.drop (k + 1)) else decide (x < y) := by
  obtain ⟨hk, rfl⟩ := List.getElem?_eq_some_iff.1 hx
  rw [List.drop_eq_getElem_cons hk]
  by_cases hb : k < b.length
  · rw [List.drop_eq_getElem_cons hb, List.getElem?_eq_getElem hb, lexB]
  · rw [show b.drop k = [] from List.drop_of_length_le (by omega), List.getElem?_eq_none (show b.length ≤ k by omega), lexB]
theorem before_c (l m : List Int) (v u : Value) (w : World) (hv : Ints w v l) (hu : Ints w u m) : Calls Tryd.prog 19 #[v, u] w (RBs (lexB l m = true) w) := by
  have hlen := hv.len
  have hlen2 := hu.len
  obtain ⟨A, c, rfl, hlc, hcm⟩ := hv.form0
  obtain ⟨A', c', rfl, hlc', hcm'⟩ := hu.form0
  have Hv := Lib.hid hv
  have Hu := Lib.hid hu
  clear hv hu
  go_enter Tryd.func19, Tryd.ntmps19
  go_wp2
  go_loop [9] (fun i => ∃ k : Nat, k ≤ l.length ∧ i = .int .i64 k ∧ Hid (lexB l m = lexB (l.drop k) (m.drop k))) (fun i => l.length - (intOf i).toNat)
  case atStart => exact ⟨0, Nat.zero_le _, rfl, by simp [Hid]⟩
  case round =>
    obtain ⟨k, hk, rfl, hno⟩ := hrel
    by_cases hkl : k < l.length
    · obtain ⟨ad, c1, hA, _, _⟩ := Hv.out.form (by omega)
      obtain ⟨rfl, rfl⟩ : A = some ad ∧ c = c1 := by simpa using hA
      obtain ⟨x, hx⟩ : ∃ x, l[k]? = some x := ⟨_, List.getElem?_eq_getElem (by omega)⟩
      have hc := Hv.out.cell hx
      have hst := lexB_step (b := m) hx
      rw [← hno.out] at hst
      clear hx hA hno
      by_cases hkm : k < m.length
      · obtain ⟨ad', c2, hA', _, _⟩ := Hu.out.form (by omega)
        obtain ⟨rfl, rfl⟩ : A' = some ad' ∧ c' = c2 := by simpa using hA'
        obtain ⟨y, hy⟩ : ∃ y, m[k]? = some y := ⟨_, List.getElem?_eq_getElem (by omega)⟩
        have hc' := Hu.out.cell hy
        rw [hy] at hst
        have hki : (k : Int) < (l.length : Int) ∧ (k : Int) < (m.length : Int) := by omega
        have hg : ¬ (m.length : Int) ≤ (k : Int) := by omega
        clear hy hA'
        by_cases hxy : x = y
        · have hb : ((x : Int) != y) = false := by simp [hxy]
          have Hn : Hid (lexB l m = lexB (l.drop (k + 1)) (m.drop (k + 1))) := by show _ = _; rw [hst]; simp [hxy]
          clear hxy hst
          go_wp2
          go_round
          case rel => exact ⟨k + 1, by omega, by go_num, Hn⟩
          case measure => simp [intOf]; omega
        · have hb : ((x : Int) != y) = true := by simp [hxy]
          have Hn : Hid (lexB l m = decide (x < y)) := by show _ = _; rw [hst]; simp [hxy]
          clear hxy hst
          go_wp2
          go_ret
          exact ⟨_, rfl, by rw [Hn.out], rfl⟩
      · have hg : (m.length : Int) ≤ (k : Int) := by omega
        have hki : (k : Int) < (l.length : Int) := by omega
        rw [List.getElem?_eq_none (by omega)] at hst
        have Hn := Lib.hid hst
        clear hst
        go_wp2
        go_ret
        exact RBs.f (by rw [Hn.out]; simp)
    · have Hn : Hid (lexB l m = false) := by show _ = _; rw [hno.out, List.drop_of_length_le (by omega)]; simp [lexB]
      clear hno
      go_wp2
      go_ret
      exact RBs.f (by rw [Hn.out]; simp)
end Go.Proofs.YtpnbcgnbkanebaaDoor
