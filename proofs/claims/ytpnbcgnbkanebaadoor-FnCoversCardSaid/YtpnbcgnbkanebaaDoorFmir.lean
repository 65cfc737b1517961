/- Contracts: the mirror of a pattern on both sides. -/
import Derived.Test.YtpnbcgnbkanebaaDoorFa
import Derived.StillTailTactics
namespace Go.Proofs.YtpnbcgnbkanebaaDoor
open Go.RowKit
set_option maxHeartbeats 1000000 in
theorem mirL_c (l : List Int) (v : Value) (w : World) (hv : Ints w v l) (hp : PatOk l) : Calls Tryd.prog 35 #[v] w (RL (mirL l) w) := by
  have hlen := hp.len
  obtain ⟨ad, c, rfl, hlc, hcm⟩ := hv.form hp.1
  have Hv := Lib.hid hv
  have Hp := Lib.hid hp
  have hla := hp.at_ (lastI_get hp.1)
  clear hp hv
  go_enter Tryd.func35, Tryd.ntmps35
  go_wp2
  go_loopw [3, 4] (fun o i wr => ∃ (k : Nat) (z : Int), k ≤ l.length ∧ i = .int .i64 z ∧ Hid (z = (l.length : Int) - 1 - k) ∧ Hid (Own wr w.heap.size o ((l.reverse.take k).map fun x => lastI l - x)) ∧ Ext w wr) (fun _ i _ => (intOf i + 1).toNat)
  case atStart => exact ⟨0, _, Nat.zero_le _, by go_num, by show _ = _; omega, Own.nil _ _, Below.refl _ _⟩
  case round =>
    obtain ⟨k, z, hk, rfl, hz, hown, hx⟩ := hrel
    by_cases hkl : k < l.length
    · obtain ⟨j, rfl⟩ : ∃ j : Nat, z = j := ⟨l.length - 1 - k, by have := hz.out; omega⟩
      have hjl : (j : Int) < (l.length : Int) ∧ (0 : Int) ≤ (l.length : Int) - 1 ∧ (l.length : Int) - 1 < (l.length : Int) := by have := hz.out; omega
      obtain ⟨x, hx1⟩ : ∃ x, l[j]? = some x := ⟨_, List.getElem?_eq_getElem (by omega)⟩
      have hxr := Hp.out.at_ hx1
      have hc1 := (Hv.out.ext hx).cell hx1
      have hc2 := (Hv.out.ext hx).cell (lastI_get Hp.out.1)
      have Hn : Hid ((l.reverse.take (k + 1)).map (fun x => lastI l - x) = (l.reverse.take k).map (fun x => lastI l - x) ++ [lastI l - x]) := by
        show _ = _
        rw [rev_take_succ hkl (by rw [← hx1]; congr 1; have := hz.out; omega)]
        simp
      have hb1 := World.block_lt_of_cell? w _ (Hv.out.cell hx1)
      have hb2 := World.block_lt_of_cell? w _ (Hv.out.cell (lastI_get Hp.out.1))
      have hll : (List.map (fun x => lastI l - x) (List.take k l.reverse)).length ≤ 13 := by simp; omega
      generalize lastI l = la at *
      clear hx1
      have hw1 : IntKind.i64.wrap ((l.length : Int) - 1) = (l.length : Int) - 1 := IntWalk.i64_in _ (by omega)
      have hl1 : (1 : Int) ≤ (l.length : Int) := by omega
      have hw2 : ((l.length : Int) - 1).toNat = l.length - 1 := by omega
      have hw3 : IntKind.i64.wrap (la - x) = la - x := IntWalk.i64_in _ (by omega)
      go_wp2
      go_region_held3 (fun w' => w'.cell? (ad.add j) = some (.int .i64 x) ∧ w'.cell? (ad.add (l.length - 1)) = some (.int .i64 la))
        (first
          | go_keep
          | (go_split_ands
             refine ⟨?_, ?_⟩
             · exact below_old hb hb1 (cell_alloc hc1 _)
             · exact below_old hb hb2 (cell_alloc hc2 _)))
        ((refine step_append1 rfl (.tmp 12) (.tmp 24) rfl rfl rfl ((hown.out.alloc _).drew) (cell_new _ _ _) (by unfold I64; omega) (by omega) (by have := hx.size; simp; omega) ?_; intro v' w' ho hg hb hat))
      clear hw1 hw2 hw3
      go_wp2
      go_roundw
      case rel => exact ⟨k + 1, (j : Int) - 1, by omega, by go_num, by have := hz.out; unfold Hid; omega, by rw [Hn.out]; exact ho, (hx.alloc hx.size _).drew.trans hb⟩
      case measure => simp [intOf]
    · have hz1 : z = -1 := by have := hz.out; omega
      subst hz1
      have Hk : Hid (k = l.length) := by show k = _; omega
      go_wp2
      go_ret
      have := hown.out
      rw [Hk.out, List.take_of_length_le (by simp)] at this
      exact ⟨_, rfl, this, hx⟩
theorem mirrorPattern_c (l : List Int) (v : Value) (w : World) (hv : Ints w v l) : Calls Tryd.prog 13 #[v] w (RL (mirI l) w) := by
  by_cases hp : PatOk l
  · have H := Lib.hid (mirI_t hp)
    have Hp := Lib.hid hp
    clear hp
    go_enter Tryd.func13, Tryd.ntmps13
    go_wp2_with (first | (go_at_call 26; refine (patternOk_c l _ _ hv).mono ?_; rintro e w1 ⟨b, rfl, hb, rfl⟩; obtain rfl := hb.2 Hp.out; clear hb) | (go_at_call 35; refine (mirL_c l _ _ hv Hp.out).mono ?_; rintro e w1 ⟨v1, rfl, ho, hx⟩))
    go_ret
    exact ⟨_, rfl, by rw [H.out]; exact ho, hx⟩
  · have H := Lib.hid (mirI_f hp)
    have Hp := Lib.hid hp
    clear hp
    go_enter Tryd.func13, Tryd.ntmps13
    go_wp2_with (first | (go_at_call 26; refine (patternOk_c l _ _ hv).mono ?_; rintro e w1 ⟨b, rfl, hb, rfl⟩; obtain rfl := bool_f hb Hp.out; clear hb))
    go_ret
    exact ⟨_, rfl, by rw [H.out]; exact Own.nil _ _, Below.refl _ _⟩
set_option maxHeartbeats 1000000 in
theorem turnL_c (l : List Int) (v : Value) (w : World) (hv : Ints w v l) (hlen : l.length ≤ 1048576) : Calls Tryd.prog 47 #[v] w (RL l.reverse w) := by
  obtain ⟨A, c, rfl, hlc, hcm⟩ := hv.form0
  have Hv := Lib.hid hv
  clear hv
  go_enter Tryd.func47, Tryd.ntmps47
  go_wp2
  go_loopw [3, 4] (fun o i wr => ∃ (k : Nat) (z : Int), k ≤ l.length ∧ i = .int .i64 z ∧ Hid (z = (l.length : Int) - 1 - k) ∧ Hid (Own wr w.heap.size o (l.reverse.take k)) ∧ Ext w wr) (fun _ i _ => (intOf i + 1).toNat)
  case atStart => exact ⟨0, _, Nat.zero_le _, by go_num, by show _ = _; omega, Own.empty (Nat.le_refl _), (Below.refl _ _).alloc (Nat.le_refl _) _⟩
  case round =>
    obtain ⟨k, z, hk, rfl, hz, hown, hx⟩ := hrel
    by_cases hkl : k < l.length
    · obtain ⟨ad, c', hA, _, _⟩ := Hv.out.form (by omega)
      obtain ⟨rfl, rfl⟩ : A = some ad ∧ c = c' := by simpa using hA
      obtain ⟨j, rfl⟩ : ∃ j : Nat, z = j := ⟨l.length - 1 - k, by have := hz.out; omega⟩
      have hjl : (j : Int) < (l.length : Int) := by have := hz.out; omega
      obtain ⟨x, hx1⟩ : ∃ x, l[j]? = some x := ⟨_, List.getElem?_eq_getElem (by omega)⟩
      have hxr := Hv.out.i64 (List.mem_of_getElem? hx1)
      have hc1 := (Hv.out.ext hx).cell hx1
      have Hn : Hid (l.reverse.take (k + 1) = l.reverse.take k ++ [x]) := rev_take_succ hkl (by rw [← hx1]; congr 1; have := hz.out; omega)
      have hll : (l.reverse.take k).length ≤ 1048576 := by simp; omega
      clear hx1 hA
      go_wp2_with (first | (at_builtin; refine wp_append1 rfl (.tmp 13) (.tmp 18) rfl rfl rfl hown.out hxr (by omega) hx.size ?_; intro v' w' ho hg hb hat))
      go_roundw
      case rel => exact ⟨k + 1, (j : Int) - 1, by omega, by go_num, by have := hz.out; unfold Hid; omega, by rw [Hn.out]; exact ho, hx.trans hb⟩
      case measure => simp [intOf]
    · have hz1 : z = -1 := by have := hz.out; omega
      subst hz1
      have Hk : Hid (k = l.length) := by show k = _; omega
      go_wp2
      go_ret
      have := hown.out
      rw [Hk.out, List.take_of_length_le (by simp)] at this
      exact ⟨_, rfl, this, hx⟩
set_option maxHeartbeats 1000000 in
theorem specMirrorPattern_c (l : List Int) (v : Value) (w : World) (hv : Ints w v l) : Calls Tryd.prog 37 #[v] w (RL (mirI l) w) := by
  by_cases hp : PatOk l
  · have H := Lib.hid (mirI_t hp)
    have Hp := Lib.hid hp
    have hlen := hp.len
    obtain ⟨ad, c, rfl, hlc, hcm⟩ := hv.form hp.1
    have Hv := Lib.hid hv
    have hla := hp.at_ (lastI_get hp.1)
    have hl1 : (1 : Int) ≤ (l.length : Int) := by omega
    clear hp hv
    go_enter Tryd.func37, Tryd.ntmps37
    go_wp2_with (first | (go_at_call 23; refine (specPatternOk_c l _ _ Hv.out).mono ?_; rintro e w1 ⟨b, rfl, hb, rfl⟩; obtain rfl := hb.2 Hp.out; clear hb) | (go_at_call 47; refine (turnL_c l _ _ (Hv.out.alloc _) (by omega)).mono ?_; rintro e w1 ⟨v1, rfl, ho, hx1⟩; have hs := ho.slice; rw [List.length_reverse] at hs; obtain ⟨A1, c1, hve, hle1, hm1⟩ := hs; subst hve))
    have ho0 := Lib.hid ((Own.empty (w := w) (B := w.heap.size) (Nat.le_refl _)).ext hx1)
    have hap : Hid (Apart (.slice A1 l.length c1) (.slice (some ⟨w.heap.size, 0, none⟩) 0 0)) := Own.apart' (Own.empty (w := w) (B := w.heap.size) (Nat.le_refl _)) ho
    have Hr := Lib.hid ho.ints
    have hx0 : Ext w w1 := Ext.tr ((Below.refl _ _).alloc (Nat.le_refl _) _) hx1
    clear ho hx1
    go_loopw [3, 13] (fun o i wr => ∃ k : Nat, k ≤ l.length ∧ i = .int .i64 k ∧ Hid (Own wr w.heap.size o ((l.reverse.take k).map fun x => lastI l - x)) ∧ Hid (Apart (.slice A1 l.length c1) o) ∧ Hid (Ints wr (.slice A1 l.length c1) l.reverse) ∧ Ext w wr) (fun _ i _ => l.length - (intOf i).toNat)
    case atStart => exact ⟨0, Nat.zero_le _, rfl, ho0.out, hap, Hr.out, hx0⟩
    case round =>
      clear ho0 hap Hr hx0
      obtain ⟨k, hk, rfl, hown, hap, hr, hx⟩ := hrel
      by_cases hkl : k < l.length
      · obtain ⟨ad1, c1', hA, _, _⟩ := hr.out.form (by simp; omega)
        obtain ⟨rfl, rfl⟩ : A1 = some ad1 ∧ c1 = c1' := by simpa using hA
        obtain ⟨x, hx1⟩ : ∃ x, l.reverse[k]? = some x := ⟨_, List.getElem?_eq_getElem (by simp; omega)⟩
        have hxr := Hp.out.mem (List.mem_reverse.1 (List.mem_of_getElem? hx1))
        have hc1 := hr.out.cell hx1
        have hc2 := (Hv.out.ext hx).cell (lastI_get Hp.out.1)
        have Hn : Hid ((l.reverse.take (k + 1)).map (fun x => lastI l - x) = (l.reverse.take k).map (fun x => lastI l - x) ++ [lastI l - x]) := by
          show _ = _
          rw [take_succ hx1]
          simp
        have hll : (List.map (fun x => lastI l - x) (List.take k l.reverse)).length ≤ 13 := by simp; omega
        have hla' := Lib.hid hla
        generalize lastI l = la at *
        have hw2 : ((l.length : Int) - 1).toNat = l.length - 1 := by omega
        clear hx1 hA
        go_wp2_with (first | (at_builtin; refine wp_append1 rfl (.tmp 17) (.tmp 26) rfl rfl rfl hown.out (by unfold I64; omega) (by omega) hx.size ?_; intro v' w' ho hg hb hat))
        go_roundw
        case rel =>
          refine ⟨k + 1, by omega, by go_num, by rw [Hn.out]; exact ho, hap.out.later (hr.out.lt (by simp; omega)) hat, hr.out.grown hg hap.out, hx.trans hb⟩
        case measure => simp [intOf]; omega
      · have Hk : Hid (k = l.length) := by show k = _; omega
        go_wp2
        go_ret
        have := hown.out
        rw [Hk.out, List.take_of_length_le (by simp)] at this
        exact ⟨_, rfl, by rw [H.out]; exact this, hx⟩
  · have H := Lib.hid (mirI_f hp)
    have Hp := Lib.hid hp
    clear hp
    go_enter Tryd.func37, Tryd.ntmps37
    go_wp2_with (first | (go_at_call 23; refine (specPatternOk_c l _ _ hv).mono ?_; rintro e w1 ⟨b, rfl, hb, rfl⟩; obtain rfl := bool_f hb Hp.out; clear hb))
    go_ret
    exact ⟨_, rfl, by rw [H.out]; exact Own.nil _ _, Below.refl _ _⟩
end Go.Proofs.YtpnbcgnbkanebaaDoor
