/- Contracts: the mirror of a pattern on both sides. -/
import Derived.Test.YtkdodbhkobefiaaDoorFa
import Derived.StillTailTactics
namespace Go.Proofs.YtkdodbhkobefiaaDoor
open Go.RowKit
set_option maxHeartbeats 1000000 in
theorem mirL_c (l : List Int) (v : Value) (w : World) (hv : Ints w v l) (hp : PatOk l) : Calls Tryd.prog 18 #[v] w (RL (mirL l) w) := by
  have hlen := hp.len
  obtain ⟨ad, c, rfl, hlc, hcm⟩ := hv.form hp.1
  have Hv := Lib.hid hv
  have Hp := Lib.hid hp
  have hla := hp.at_ (lastI_get hp.1)
  clear hp hv
  go_enter Tryd.func18, Tryd.ntmps18
  go_wp2
  go_loopw [3, 4] (fun o i wr => ∃ (k : Nat) (z : Int), k ≤ l.length ∧ i = .int .i64 z ∧ Hid (z = (l.length : Int) - 1 - k) ∧ Hid (Own wr w.heap.size o ((l.reverse.take k).map fun x => lastI l - x)) ∧ Ext w wr) (fun _ i _ => (intOf i + 1).toNat)
  case atStart => exact ⟨0, _, Nat.zero_le _, by go_num, by show _ = _; omega, Own.nil _ _, Below.refl _ _⟩
  case round =>
    obtain ⟨k, z, hk, rfl, hz, hown, hx⟩ := hrel
    by_cases hkl : k < l.length
    · obtain ⟨j, rfl⟩ : ∃ j : Nat, z = j := ⟨l.length - 1 - k, by have := hz.out; omega⟩
      have hjl : (j : Int) < (l.length : Int) ∧ (0 : Int) ≤ (l.length : Int) - 1 ∧ (l.length : Int) - 1 < (l.length : Int) := by have := hz.out; omega
      obtain ⟨x, hx1⟩ : ∃ x, l[j]? = some x := ⟨_, List.getElem?_eq_getElem (by omega)⟩
      have hxr := Hp.out.at_ hx1
      have hc1 := (Hv.out.ext hx).cell hx1
      have hc2 := (Hv.out.ext hx).cell (lastI_get Hp.out.1)
      have Hn : Hid ((l.reverse.take (k + 1)).map (fun x => lastI l - x) = (l.reverse.take k).map (fun x => lastI l - x) ++ [lastI l - x]) := by
        show _ = _
        rw [rev_take_succ hkl (by rw [← hx1]; congr 1; have := hz.out; omega)]
        simp
      have hb1 := World.block_lt_of_cell? w _ (Hv.out.cell hx1)
      have hb2 := World.block_lt_of_cell? w _ (Hv.out.cell (lastI_get Hp.out.1))
      have hll : (List.map (fun x => lastI l - x) (List.take k l.reverse)).length ≤ 13 := by simp; omega
      generalize lastI l = la at *
      clear hx1
      have hw1 : IntKind.i64.wrap ((l.length : Int) - 1) = (l.length : Int) - 1 := IntWalk.i64_in _ (by omega)
      have hl1 : (1 : Int) ≤ (l.length : Int) := by omega
      have hw2 : ((l.length : Int) - 1).toNat = l.length - 1 := by omega
      have hw3 : IntKind.i64.wrap (la - x) = la - x := IntWalk.i64_in _ (by omega)
      go_wp2
      go_region_held3 (fun w' => w'.cell? (ad.add j) = some (.int .i64 x) ∧ w'.cell? (ad.add (l.length - 1)) = some (.int .i64 la))
        (first
          | go_keep
          | (go_split_ands
             refine ⟨?_, ?_⟩
             · exact below_old hb hb1 (cell_alloc hc1 _)
             · exact below_old hb hb2 (cell_alloc hc2 _)))
        ((refine step_append1 rfl (.tmp 12) (.tmp 24) rfl rfl rfl ((hown.out.alloc _).drew) (cell_new _ _ _) (by unfold I64; omega) (by omega) (by have := hx.size; simp; omega) ?_; intro v' w' ho hg hb hat))
      clear hw1 hw2 hw3
      go_wp2
      go_roundw
      case rel => exact ⟨k + 1, (j : Int) - 1, by omega, by go_num, by have := hz.out; unfold Hid; omega, by rw [Hn.out]; exact ho, (hx.alloc hx.size _).drew.trans hb⟩
      case measure => simp [intOf]
    · have hz1 : z = -1 := by have := hz.out; omega
      subst hz1
      have Hk : Hid (k = l.length) := by show k = _; omega
      go_wp2
      go_ret
      have := hown.out
      rw [Hk.out, List.take_of_length_le (by simp)] at this
      exact ⟨_, rfl, this, hx⟩
theorem mirrorPattern_c (l : List Int) (v : Value) (w : World) (hv : Ints w v l) : Calls Tryd.prog 5 #[v] w (RL (mirI l) w) := by
  by_cases hp : PatOk l
  · have H := Lib.hid (mirI_t hp)
    have Hp := Lib.hid hp
    clear hp
    go_enter Tryd.func5, Tryd.ntmps5
    go_wp2_with (first | (go_at_call 11; refine (patternOk_c l _ _ hv).mono ?_; rintro e w1 ⟨b, rfl, hb, rfl⟩; obtain rfl := hb.2 Hp.out; clear hb) | (go_at_call 18; refine (mirL_c l _ _ hv Hp.out).mono ?_; rintro e w1 ⟨v1, rfl, ho, hx⟩))
    go_ret
    exact ⟨_, rfl, by rw [H.out]; exact ho, hx⟩
  · have H := Lib.hid (mirI_f hp)
    have Hp := Lib.hid hp
    clear hp
    go_enter Tryd.func5, Tryd.ntmps5
    go_wp2_with (first | (go_at_call 11; refine (patternOk_c l _ _ hv).mono ?_; rintro e w1 ⟨b, rfl, hb, rfl⟩; obtain rfl := bool_f hb Hp.out; clear hb))
    go_ret
    exact ⟨_, rfl, by rw [H.out]; exact Own.nil _ _, Below.refl _ _⟩
end Go.Proofs.YtkdodbhkobefiaaDoor
