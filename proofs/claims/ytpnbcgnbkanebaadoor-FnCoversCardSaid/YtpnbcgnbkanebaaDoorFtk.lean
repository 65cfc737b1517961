/- Contract: l14Taken: who takes which time. -/
import Derived.Test.YtpnbcgnbkanebaaDoorFic
namespace Go.Proofs.YtpnbcgnbkanebaaDoor
open Go.RowKit
/-- What l14Taken leaves: the takers, or nothing. -/
def RTk (o : Option (List Int)) (w : World) (e : Ending) (w' : World) : Prop :=
  Ext w w' ∧ match o with
    | some a => ∃ v, e = .returned (.tuple #[v, .bool true]) ∧ Own w' w.heap.size v a
    | none => e = .returned (.tuple #[.slice none 0 0, .bool false])
theorem RTk.f {o : Option (List Int)} {w w' : World} (h : o = none) (hx : Ext w w') : RTk o w (.returned (.tuple #[.slice none 0 0, .bool false])) w' := by subst h; exact ⟨hx, rfl⟩
theorem RTk.t {o : Option (List Int)} {a : List Int} {v : Value} {w w' : World} (h : o = some a) (ho : Own w' w.heap.size v a) (hx : Ext w w') : RTk o w (.returned (.tuple #[v, .bool true])) w' := by subst h; exact ⟨hx, v, rfl, ho⟩
theorem takR_zero (p : List Int) (n : Nat) (prev prev' : Int) (l a : List Int) : takR p n 0 prev l a = takR p n 0 prev' l a := by
  cases l with
  | nil => rfl
  | cons x xs => rw [takR, takR]; simp
theorem drop_get {l : List Int} {k : Nat} {x : Int} (h : l[k]? = some x) : l.drop k = x :: l.drop (k + 1) := by
  have hk := (List.getElem?_eq_some_iff.1 h).1
  rw [List.drop_eq_getElem_cons hk]
  congr 1
  rw [List.getElem?_eq_getElem hk] at h
  exact Option.some.inj h
/-- where the laying stands: what is left leads to the same as the whole -/
def TR (p : List Int) (n : Nat) (l : List Int) (k : Nat) (a : List Int) : Prop := takR p n k (l.getD (k - 1) 0) (l.drop k) a = takR p n 0 0 l (List.replicate n (-1))
theorem TR.zero (p : List Int) (n : Nat) (l : List Int) : TR p n l 0 (List.replicate n (-1)) := by unfold TR; rw [List.drop_zero]; exact takR_zero _ _ _ _ _ _
theorem TR.done {p : List Int} {n : Nat} {l a : List Int} (h : TR p n l l.length a) : takR p n 0 0 l (List.replicate n (-1)) = some a := by unfold TR at h; rw [← h, List.drop_length]; rfl
theorem TR.none {p : List Int} {n : Nat} {l a : List Int} {k : Nat} {x : Int} (h : TR p n l k a) (hx : l[k]? = some x) (hc : ¬ (0 ≤ x ∧ x < 2 * n ∧ (k = 0 ∨ l.getD (k - 1) 0 < x) ∧ (x % 2 = 1 → mirL p ≠ p))) : takO p n l = none := by
  unfold TR at h
  rw [drop_get hx, takR, if_neg hc] at h
  unfold takO
  rw [← h]
theorem TR.lay {p : List Int} {n : Nat} {l a : List Int} {k : Nat} {x : Int} (h : TR p n l k a) (hx : l[k]? = some x) (hc : 0 ≤ x ∧ x < 2 * n ∧ (k = 0 ∨ l.getD (k - 1) 0 < x) ∧ (x % 2 = 1 → mirL p ≠ p)) :
    (∀ b, layC k ((if x % 2 = 1 then mirL p else p).map fun y => x / 2 + y) a = some b → TR p n l (k + 1) b) ∧ (layC k ((if x % 2 = 1 then mirL p else p).map fun y => x / 2 + y) a = Option.none → takO p n l = Option.none) := by
  unfold TR at h
  rw [drop_get hx, takR, if_pos hc] at h
  constructor
  · intro b hb
    rw [hb] at h
    unfold TR
    rw [Nat.add_sub_cancel, getD_of hx]
    exact h
  · intro hb
    rw [hb] at h
    unfold takO
    rw [← h]
theorem layC_stop {i y : Int} {q b : List Int} {t : Int} {m : Nat} (hy : q[m]? = some y) (hc : ¬ (0 ≤ t + y ∧ t + y < b.length ∧ b.getD (t + y).toNat 0 < 0)) : layC i ((q.drop m).map fun y => t + y) b = none := by
  rw [drop_get hy, List.map_cons, layC, if_neg hc]
theorem layC_on {i y : Int} {q b : List Int} {t : Int} {m : Nat} (hy : q[m]? = some y) (hc : 0 ≤ t + y ∧ t + y < b.length ∧ b.getD (t + y).toNat 0 < 0) : layC i ((q.drop m).map fun y => t + y) b = layC i ((q.drop (m + 1)).map fun y => t + y) (b.set (t + y).toNat i) := by
  rw [drop_get hy, List.map_cons, layC, if_pos hc]
theorem layC_end {i : Int} {q b : List Int} {t : Int} : layC i ((q.drop q.length).map fun y => t + y) b = some b := by rw [List.drop_length]; rfl
theorem takO_all {p l a : List Int} {n : Nat} (h : takR p n 0 0 l (List.replicate n (-1)) = some a) : takO p n l = if a.all (fun v => decide (0 ≤ v)) then some a else none := by unfold takO; rw [h]
theorem rep_snoc (t : Nat) : List.replicate (t + 1) (-1 : Int) = List.replicate t (-1) ++ [-1] := by rw [List.replicate_succ', ]
set_option maxRecDepth 100000 in
set_option maxHeartbeats 4000000 in
theorem l14Taken_c (p : List Int) (n : Nat) (l : List Int) (v u : Value) (w : World) (hv : Ints w v p) (hp : PatOk p) (hn : n ≤ 24) (hu : Ints w u l) : Calls Tryd.prog 25 #[v, .int .i64 n, u] w (RTk (takO p n l) w) := by
  obtain ⟨A, c, hve, _, _⟩ := hv.form0
  obtain ⟨mp, hmp⟩ : ∃ mp, mp = p.length := ⟨_, rfl⟩
  rw [← hmp] at hve
  subst hve
  obtain ⟨A', c', hue, _, _⟩ := hu.form0
  have hul := hu.len
  obtain ⟨q, hq⟩ : ∃ q, q = l.length := ⟨_, rfl⟩
  rw [← hq] at hue hul
  subst hue
  have Hmp := Lib.hid hmp
  have Hq := Lib.hid hq
  have hpl := hp.len
  rw [← hmp] at hpl
  have Hm := Lib.hid (mirI_t hp)
  have Hv := Lib.hid hv
  have Hu := Lib.hid hu
  have Hp := Lib.hid hp
  clear hv hu hp hmp hq
  go_enter Tryd.func25, Tryd.ntmps25
  go_wp2
  go_loopw [8, 9] (fun o i wr => ∃ t : Nat, t ≤ n ∧ i = .int .i64 t ∧ Hid (Own wr w.heap.size o (List.replicate t (-1)) ∧ Ext w wr)) (fun _ i _ => n - (intOf i).toNat)
  case atStart => exact ⟨0, Nat.zero_le _, rfl, Own.empty (Nat.le_refl _), one_boxC _ _⟩
  case round =>
    obtain ⟨t, ht, rfl, hr⟩ := hrel
    by_cases htn : t < n
    · have htn2 : (t : Int) < (n : Int) := by omega
      have Hs := Lib.hid (rep_snoc t)
      go_wp2_with (first | (at_builtin; refine wp_append1 rfl (.tmp 25) (.tmp 26) rfl rfl rfl hr.out.1 (by unfold I64; omega) (by rw [List.length_replicate]; omega) hr.out.2.size ?_; intro v' w' ho hg hb hat))
      go_roundw
      case rel => first | exact ⟨t + 1, by omega, by go_num, by unfold Hid; rw [Hs.out]; exact ⟨ho, hr.out.2.trans hb⟩⟩ | ((repeat apply Exists.intro); exact ⟨⟨t + 1, by omega, by go_num, by unfold Hid; rw [Hs.out]; exact ⟨ho, hr.out.2.trans hb⟩⟩, rfl⟩)
      case measure => simp [intOf]; omega
    · obtain rfl : t = n := by omega
      have Ho := Lib.hid hr.out.1
      have HX := Lib.hid hr.out.2
      obtain ⟨A8, c8, ho8, _, _⟩ := Ho.out.slice
      rw [List.length_replicate] at ho8
      subst ho8
      have HI2 : Hid (∀ w2 : World, Ext wr w2 → Ints w2 (.slice A mp c) p ∧ Ints w2 (.slice A' q c') l) := fun w2 hx => ⟨Hv.out.ext (HX.out.tr hx), Hu.out.ext (HX.out.tr hx)⟩
      go_wp2_with (first | (go_at_call 37; refine (specMirrorPattern_c p _ _ (Hv.out.ext HX.out)).mono ?_; rintro e w2 ⟨v2, rfl, ho2, hx2⟩; (rw [Hm.out] at ho2; obtain ⟨A2, c2, hv2, _, _⟩ := ho2.slice; rw [mirL_len, ← Hmp.out] at hv2; subst hv2)))
      have Ho2 := Lib.hid ho2
      have HX2 := Lib.hid (HX.out.tr hx2)
      have Ho3 := Lib.hid (Ho.out.ext hx2)
      have Hapm : Hid ((Value.slice A2 mp c2).ownBlock = none ∨ (Value.slice A2 mp c2).ownBlock ≠ (Value.slice A8 t c8).ownBlock) := Own.apart' Ho.out ho2
      clear ho2 hx2 hr HI2
      go_loopw [32] (fun i wz => ∃ (k : Nat) (a : List Int), k ≤ q ∧ i = .int .i64 k ∧ Hid (Own wz w.heap.size (.slice A8 t c8) a ∧ a.length = t ∧ w2.grownBy wz (Value.slice A8 t c8).ownBlock ∧ TR p t l k a)) (fun i _ => q - (intOf i).toNat)
      case atStart => exact ⟨0, _, Nat.zero_le _, rfl, Ho3.out, by rw [List.length_replicate], World.grownBy.refl _ _, TR.zero _ _ _⟩
      case round =>
        obtain ⟨k, a, hk, rfl, hr⟩ := hrel
        obtain ⟨w1, rfl⟩ : ∃ z : World, z = wr := ⟨_, rfl⟩
        have Hxw : Hid (Ext w w1) := (HX2.out).grown hr.out.2.2.1 HX2.out.size fun j hj => (Ho3.out.lt j hj).1
        have HoM : Hid (Own w1 _ (.slice A2 mp c2) (mirL p)) := Ho2.out.kept hr.out.2.2.1 Hapm.out
        by_cases hkq : k < q
        · obtain ⟨ad, cc, hA', _, _⟩ := Hu.out.form (by rw [← Hq.out]; omega)
          rw [← Hq.out] at hA'
          obtain ⟨rfl, rfl⟩ : A' = some ad ∧ c' = cc := by simp only [Value.slice.injEq, true_and] at hA'; exact hA'
          obtain ⟨x, hx⟩ : ∃ x, l[k]? = some x := ⟨_, List.getElem?_eq_getElem (by rw [← Hq.out]; exact hkq)⟩
          have hcx := (Hu.out.ext Hxw.out).cell hx
          have hkq2 : (k : Int) < (q : Int) := by omega
          have Hx := Lib.hid hx
          clear hx hA'
          by_cases hx0 : 0 ≤ x ∧ x ≤ 2 * (t : Int) - 1
          · obtain ⟨e, rfl⟩ := Int.eq_ofNat_of_zero_le hx0.1
            have he : e ≤ 47 := by omega
            have het : e < 2 * t := by omega
            obtain ⟨prev, hprev⟩ : ∃ prev, prev = l.getD (k - 1) 0 := ⟨_, rfl⟩
            have Hprev := Lib.hid hprev
            by_cases hbad : 1 ≤ k ∧ (e : Int) ≤ prev
            · obtain ⟨hk1, hle⟩ := hbad
              have Hn : Hid (takO p t l = none) := TR.none hr.out.2.2.2 Hx.out (fun h => by
                rcases h.2.2.1 with h1 | h1
                · omega
                · rw [← hprev] at h1; omega)
              have hcy := (Hu.out.ext Hxw.out).cell (k := k - 1) (x := prev) (by rw [hprev]; exact get_of_lt (by rw [← Hq.out]; omega))
              have hk1i : (1 : Int) ≤ (k : Int) := by omega
              have hkm : (k : Int) - 1 = ((k - 1 : Nat) : Int) := by omega
              have hkm2 : ((k - 1 : Nat) : Int) < (q : Int) := by omega
              generalize k - 1 = k' at *
              clear hprev
              go_wp2_with (first | (go_at_call 24; refine (l01In_t _ ?_).mono ?_; (focus omega); rintro e w1 ⟨rfl, rfl⟩))
              go_ret2
              exact RTk.f Hn.out Hxw.out
            · have Hasc : Hid (k = 0 ∨ l.getD (k - 1) 0 < (e : Int)) := by unfold Hid; rw [← hprev]; omega
              rcases Nat.eq_zero_or_pos k with hk0 | hk1
              all_goals first
                | (have hkn : ¬ 0 < k := (by omega); clear hk0)
                | (have hcy := (Hu.out.ext Hxw.out).cell (k := k - 1) (x := prev) (by rw [hprev]; exact get_of_lt (by rw [← Hq.out]; omega)); have hk1i : (1 : Int) ≤ (k : Int) := (by omega); have hkm : (k : Int) - 1 = ((k - 1 : Nat) : Int) := (by omega); have hkm2 : ((k - 1 : Nat) : Int) < (q : Int) := (by omega); have hle : ¬ (e : Int) ≤ prev := (by omega); obtain ⟨k', hk'⟩ : ∃ k', k' = k - 1 := ⟨_, rfl⟩; rw [← hk'] at hcy hkm hkm2; clear hk')
              all_goals
                clear hprev hbad
                by_cases hodd : e % 2 = 1
              all_goals first
                | (have hmd : (e : Int) % 2 = 1 := (by omega); have Hod := Lib.hid hodd; clear hodd; by_cases hsame : p = mirL p)
                | (have hmd : (e : Int) % 2 = 0 := (by omega); have Hev := Lib.hid hodd; clear hodd)
              all_goals first
                | (have Hs := Lib.hid hsame; have Ho := Lib.hid Hod.out
                   clear hsame
                   have Hn : Hid (takO p t l = none) := TR.none hr.out.2.2.2 Hx.out (fun h => h.2.2.2 (by have := Hod.out; omega) Hs.out.symm)
                   go_wp2_with (first | (go_at_call 24; refine (l01In_t _ ?_).mono ?_; (focus omega); rintro e w1 ⟨rfl, rfl⟩) | (go_at_call 38; refine (l02Same_c p (mirL p) _ _ _ (Hv.out.ext Hxw.out) HoM.out.ints).mono ?_; rintro e wy ⟨bb, rfl, hbb, hxy⟩; (obtain rfl := hbb.2 Hs.out; clear hbb)))
                   go_ret2
                   exact RTk.f Hn.out (Hxw.out.tr hxy))
                | skip
              all_goals
                have Ha0 := Lib.hid hr.out.1
                have Hal0 := Lib.hid hr.out.2.1
                have Hg0 := Lib.hid hr.out.2.2.1
                have HT0 := Lib.hid hr.out.2.2.2
                obtain ⟨h, hh⟩ : ∃ h, h = e / 2 := ⟨_, rfl⟩
                have hdv : (e : Int) / 2 = (h : Int) := by omega
                have hh24 : h ≤ 24 := by omega
                have Hh := Lib.hid hh
                clear hh
              all_goals first
                | (have Hs := Lib.hid hsame; have Ho := Lib.hid Hod.out
                   clear hsame
                   obtain ⟨sq, hsq⟩ : ∃ sq, sq = mirL p := ⟨_, rfl⟩
                   have Hsq : Hid (sq = if (e : Int) % 2 = 1 then mirL p else p) := (by unfold Hid; rw [if_pos (by have := Hod.out; omega), hsq])
                   have Hlen : Hid (mp = sq.length) := (by unfold Hid; rw [hsq, mirL_len]; exact Hmp.out)
                   have Hcnd : Hid ((e : Int) % 2 = 1 → mirL p ≠ p) := (fun _ h => Hs.out h.symm)
                   have Hsok : Hid (PatOk sq) := (by unfold Hid; rw [hsq]; exact mirL_ok Hp.out)
                   have hsqh := Lib.hid hsq
                   clear hsq
                   go_wp2_with (first | (go_at_call 24; refine (l01In_t _ ?_).mono ?_; (focus omega); rintro e w1 ⟨rfl, rfl⟩) | (go_at_call 38; refine (l02Same_c p (mirL p) _ _ _ (Hv.out.ext Hxw.out) HoM.out.ints).mono ?_; rintro e wY ⟨bb, rfl, hbb, hxY⟩; (obtain rfl := bool_f hbb Hs.out; clear hbb)))
                   have HsI : Hid (Ints wY (.slice A2 mp c2) sq) := (by unfold Hid; rw [hsqh.out]; exact HoM.out.ints.ext hxY)
                   have Hap3 := Lib.hid Hapm.out
                   have HxwY := Lib.hid (Hxw.out.tr hxY)
                   have HaY := Lib.hid (Ha0.out.ext hxY)
                   have HgY := Lib.hid (grownBy_tr Hg0.out (grownBy_of_ext hxY _))
                   obtain ⟨As, rfl⟩ : ∃ z, z = A2 := ⟨_, rfl⟩
                   obtain ⟨cs, rfl⟩ : ∃ z, z = c2 := ⟨_, rfl⟩)
                | (have Hs := Lib.hid Hev.out
                   obtain ⟨sq, hsq⟩ : ∃ sq, sq = p := ⟨_, rfl⟩
                   have Hsq : Hid (sq = if (e : Int) % 2 = 1 then mirL p else p) := (by unfold Hid; rw [if_neg (by have := Hev.out; omega), hsq])
                   have Hlen : Hid (mp = sq.length) := (by unfold Hid; rw [hsq]; exact Hmp.out)
                   have Hcnd : Hid ((e : Int) % 2 = 1 → mirL p ≠ p) := (fun h => by have := Hev.out; omega)
                   have Hsok : Hid (PatOk sq) := (by unfold Hid; rw [hsq]; exact Hp.out)
                   have hsqh := Lib.hid hsq
                   clear hsq
                   go_wp2_with (first | (go_at_call 24; refine (l01In_t _ ?_).mono ?_; (focus omega); rintro e w1 ⟨rfl, rfl⟩))
                   obtain ⟨wY, rfl⟩ : ∃ z : World, z = w1 := ⟨_, rfl⟩
                   have HsI : Hid (Ints wY (.slice A mp c) sq) := (by unfold Hid; rw [hsqh.out]; exact Hv.out.ext Hxw.out)
                   have Hap3 : Hid ((Value.slice A mp c).ownBlock = none ∨ (Value.slice A mp c).ownBlock ≠ (Value.slice A8 t c8).ownBlock) := (by
                     obtain ⟨ad', cc', he', _, _⟩ := Hv.out.form (by rw [← Hmp.out]; omega)
                     simp only [Value.slice.injEq] at he'
                     obtain ⟨rfl, _, _⟩ := he'
                     have h0 := World.block_lt_of_cell? w _ (Hv.out.cell Hp.out.2.1)
                     rw [block_of_add] at h0
                     refine .inr fun h' => ?_
                     have := (Ho3.out.lt _ h'.symm).1
                     omega)
                   have HxwY := Lib.hid Hxw.out
                   have HaY := Lib.hid Ha0.out
                   have HgY := Lib.hid Hg0.out
                   obtain ⟨As, rfl⟩ : ∃ z, z = A := ⟨_, rfl⟩
                   obtain ⟨cs, rfl⟩ : ∃ z, z = c := ⟨_, rfl⟩)
              all_goals
                have Hlay : Hid ((∀ b, layC (k : Int) (sq.map fun y => (h : Int) + y) a = some b → TR p t l (k + 1) b) ∧ (layC (k : Int) (sq.map fun y => (h : Int) + y) a = none → takO p t l = none)) := by
                  have h9 := HT0.out.lay Hx.out ⟨by omega, by omega, Hasc.out, Hcnd.out⟩
                  rw [← Hsq.out, hdv] at h9
                  exact h9
                go_loopw [66] (fun i wz => ∃ (m : Nat) (b : List Int), m ≤ mp ∧ i = .int .i64 m ∧ Hid (Own wz w.heap.size (.slice A8 t c8) b ∧ b.length = t ∧ wY.grownBy wz (Value.slice A8 t c8).ownBlock ∧ layC (k : Int) ((sq.drop m).map fun y => (h : Int) + y) b = layC (k : Int) (sq.map fun y => (h : Int) + y) a)) (fun i _ => mp - (intOf i).toNat)
                case atStart => exact ⟨0, a, Nat.zero_le _, rfl, HaY.out, Hal0.out, World.grownBy.refl _ _, by rw [List.drop_zero]⟩
                case round =>
                  obtain ⟨m, b, hm, rfl, hs⟩ := hrel
                  have Hb := Lib.hid hs.out.1
                  have Hbl := Lib.hid hs.out.2.1
                  have Hbg := Lib.hid hs.out.2.2.1
                  have Hbc := Lib.hid hs.out.2.2.2
                  by_cases hmm : m < mp
                  · obtain ⟨ads, ccs, hAs, _, _⟩ := HsI.out.form (by rw [← Hlen.out]; omega)
                    rw [← Hlen.out] at hAs
                    obtain ⟨rfl, rfl⟩ : As = some ads ∧ cs = ccs := by simp only [Value.slice.injEq, true_and] at hAs; exact hAs
                    obtain ⟨y0, hy⟩ : ∃ y, sq[m]? = some y := ⟨_, List.getElem?_eq_getElem (by rw [← Hlen.out]; exact hmm)⟩
                    have hy12 := Hsok.out.at_ hy
                    obtain ⟨y, rfl⟩ := Int.eq_ofNat_of_zero_le hy12.1
                    have hcy := (HsI.out.grown Hbg.out Hap3.out).cell hy
                    have hmm2 : (m : Int) < (mp : Int) := by omega
                    obtain ⟨z, hz⟩ : ∃ z, z = h + y := ⟨_, rfl⟩
                    have hzi : (h : Int) + (y : Int) = (z : Int) := by omega
                    have hz36 : z ≤ 36 := by omega
                    have Hy := Lib.hid hy
                    have Hz := Lib.hid hz
                    clear hy hAs hz
                    by_cases hzt : z < t
                    · have hzt2 : ¬ (t : Int) ≤ (z : Int) := by omega
                      have hzt3 : (z : Int) < (t : Int) := by omega
                      obtain ⟨g, cc, he8, _, _, _, hcell, hfree⟩ := Hb.out.shape (by rw [Hbl.out]; omega)
                      rw [Hbl.out] at he8
                      obtain ⟨rfl, rfl⟩ : A8 = some ⟨g, 0, none⟩ ∧ c8 = cc := by simp only [Value.slice.injEq, true_and] at he8; exact he8
                      obtain ⟨bz, hbz⟩ : ∃ bz, b[z]? = some bz := ⟨_, List.getElem?_eq_getElem (by rw [Hbl.out]; exact hzt)⟩
                      have hcz := hcell z bz hbz
                      have hfz := hfree z
                      have Hbz : Hid (b.getD z 0 = bz) := by unfold Hid; simp [List.getD, hbz]
                      clear hcell hfree he8 hbz
                      by_cases hb0 : bz < 0
                      · have Hon : Hid (layC (k : Int) ((sq.drop (m + 1)).map fun y => (h : Int) + y) (b.set z (k : Int)) = layC (k : Int) (sq.map fun y => (h : Int) + y) a) := by
                          have h9 := layC_on (i := (k : Int)) (q := sq) (b := b) (t := (h : Int)) (m := m) Hy.out (by rw [hzi, Int.toNat_natCast, Hbz.out, Hbl.out]; omega)
                          rw [hzi, Int.toNat_natCast] at h9
                          unfold Hid
                          rw [← h9]; exact Hbc.out
                        have Hst := Lib.hid (Hb.out.stored z (x := (k : Int)) (by unfold I64; omega))
                        have hb0' : ¬ 0 ≤ bz := by omega
                        go_wp2
                        go_roundw
                        case rel => exact ⟨m + 1, _, by omega, by go_num, Hst.out.1, by rw [List.length_set]; exact Hbl.out, grownBy_tr Hbg.out Hst.out.2, Hon.out⟩
                        case measure => simp [intOf]; omega
                      · have Hn : Hid (takO p t l = none) := Hlay.out.2 (by
                          rw [← Hbc.out]
                          exact layC_stop Hy.out (fun h9 => by rw [hzi, Int.toNat_natCast, Hbz.out] at h9; omega))
                        have hb0' : 0 ≤ bz := by omega
                        have Hxz : Hid (Ext w wr) := HxwY.out.grown Hbg.out HxwY.out.size fun j hj => (HaY.out.lt j hj).1
                        go_wp2
                        go_ret2
                        exact RTk.f Hn.out Hxz.out
                    · have hzt2 : (t : Int) ≤ (z : Int) := by omega
                      have Hn : Hid (takO p t l = none) := Hlay.out.2 (by
                        rw [← Hbc.out]
                        exact layC_stop Hy.out (fun h9 => by rw [hzi, Hbl.out] at h9; omega))
                      have Hxz : Hid (Ext w wr) := HxwY.out.grown Hbg.out HxwY.out.size fun j hj => (HaY.out.lt j hj).1
                      go_wp2
                      go_ret2
                      exact RTk.f Hn.out Hxz.out
                  · obtain rfl : m = mp := by omega
                    have HTn : Hid (TR p t l (k + 1) b) := Hlay.out.1 b (by rw [← Hbc.out, Hlen.out]; exact layC_end)
                    go_wp2
                    go_roundw
                    case rel => exact ⟨k + 1, b, by omega, by go_num, Hb.out, Hbl.out, grownBy_tr HgY.out Hbg.out, HTn.out⟩
                    case measure => simp [intOf]; omega
          · have Hn : Hid (takO p t l = none) := TR.none hr.out.2.2.2 Hx.out (fun h => hx0 ⟨h.1, by omega⟩)
            go_wp2_with (first | (go_at_call 24; refine (l01In_f _ ?_).mono ?_; (focus omega); rintro e w1 ⟨rfl, rfl⟩))
            go_ret2
            exact RTk.f Hn.out Hxw.out
        · obtain rfl : k = q := by omega
          have Hd : Hid (takR p t 0 0 l (List.replicate t (-1)) = some a) := by
            have h := hr.out.2.2.2
            rw [Hq.out] at h
            exact h.done
          have Ha := Lib.hid hr.out.1
          have Hal := Lib.hid hr.out.2.1
          go_wp2
          go_loop [92] (fun i => ∃ j : Nat, j ≤ t ∧ i = .int .i64 j ∧ Hid (∀ i, i < j → 0 ≤ a.getD i (-1))) (fun i => t - (intOf i).toNat)
          case atStart => exact ⟨0, Nat.zero_le _, rfl, fun i hi => absurd hi (Nat.not_lt_zero _)⟩
          case round =>
            obtain ⟨j, hj, rfl, hall⟩ := hrel
            by_cases hjt : j < t
            · obtain ⟨g, cc, he, _, _, _, hcell, _⟩ := Ha.out.shape (by rw [Hal.out]; omega)
              rw [Hal.out] at he
              obtain ⟨rfl, rfl⟩ : A8 = some ⟨g, 0, none⟩ ∧ c8 = cc := by simp only [Value.slice.injEq, true_and] at he; exact he
              obtain ⟨y, hy⟩ : ∃ y, a[j]? = some y := ⟨_, List.getElem?_eq_getElem (by rw [Hal.out]; exact hjt)⟩
              have hcy := hcell j y hy
              have hyg : a.getD j (-1) = y := by simp [List.getD, hy]
              have hjt2 : (j : Int) < (t : Int) := by omega
              have Hyg := Lib.hid hyg
              clear hcell he hy hyg
              by_cases hy0 : y < 0
              · have Hn : Hid (takO p t l = none) := by
                  unfold Hid
                  rw [takO_all Hd.out, if_neg]
                  intro h
                  have := all_getD.1 h j (by rw [Hal.out]; exact hjt)
                  rw [Hyg.out] at this
                  omega
                go_wp2
                go_ret2
                exact RTk.f Hn.out Hxw.out
              · have Hall2 : Hid (∀ i, i < j + 1 → 0 ≤ a.getD i (-1)) := fun i hi => by
                  by_cases e : i = j
                  · rw [e, Hyg.out]; omega
                  · exact hall.out i (by omega)
                go_wp2
                go_round
                case rel => exact ⟨j + 1, by omega, by go_num, Hall2⟩
                case measure => simp [intOf]; omega
            · obtain rfl : j = t := by omega
              have Hn : Hid (takO p j l = some a) := by
                unfold Hid
                rw [takO_all Hd.out, if_pos (all_getD.2 (by rw [Hal.out]; exact hall.out))]
              go_wp2
              go_ret2
              exact RTk.t Hn.out Ha.out Hxw.out
end Go.Proofs.YtpnbcgnbkanebaaDoor
