/- Contracts: EntriesOf on both sides: the entries of a pattern on a line, one after another. -/
import Derived.Test.YtkdodbhkobefiaaDoorFblock
namespace Go.Proofs.YtkdodbhkobefiaaDoor
open Go.RowKit
def ent (m : Nat) : Nat → Nat → Nat → List Nat → Option (List Nat)
  | 0, _, _, es => some es
  | k + 1, s, t, es => if s &&& m = 0 then ent m k (D (s + m)).1 (t + (D (s + m)).2) (es ++ [t]) else none
theorem ent_on {m k s t : Nat} {es : List Nat} (h : s &&& m = 0) : ent m (k + 1) s t es = ent m k (D (s + m)).1 (t + (D (s + m)).2) (es ++ [t]) := by rw [ent, if_pos h]
theorem ent_off {m k s t : Nat} {es : List Nat} (h : ¬ s &&& m = 0) : ent m (k + 1) s t es = none := by rw [ent, if_neg h]
theorem ent_len {m : Nat} : ∀ {k s t : Nat} {es r : List Nat}, ent m k s t es = some r → r.length = es.length + k := by
  intro k
  induction k with
  | zero => intro s t es r h; rw [ent] at h; cases h; rfl
  | succ k ih =>
    intro s t es r h
    by_cases h0 : s &&& m = 0
    · rw [ent_on h0] at h
      have := ih h
      simp at this
      omega
    · rw [ent_off h0] at h; cases h
def entO (l : List Int) (n : Int) : Option (List Nat) := if patB l = true ∧ 0 ≤ n ∧ n ≤ 40 then ent (maskN l) n.toNat 0 0 [] else none
theorem entO_t {l : List Int} {n : Nat} (h : PatOk l) (hn : n ≤ 40) : entO l n = ent (maskN l) n 0 0 [] := by unfold entO; rw [if_pos ⟨patB_t h, by omega, by omega⟩]; rfl
theorem entO_f {l : List Int} {n : Int} (h : ¬ (PatOk l ∧ 0 ≤ n ∧ n ≤ 40)) : entO l n = none := by
  unfold entO; rw [if_neg (fun h' => h ⟨(patB_iff _).1 h'.1, h'.2⟩)]
def entL (l : List Int) (n : Int) : List Int := match entO l n with | some es => esI es | none => []
def entB (l : List Int) (n : Int) : Bool := (entO l n).isSome
theorem ent_none {l : List Int} {n : Int} (h : entO l n = none) : entL l n = [] ∧ entB l n = false := by unfold entL entB; rw [h]; exact ⟨rfl, rfl⟩
theorem ent_some {l : List Int} {n : Int} {es : List Nat} (h : entO l n = some es) : entL l n = esI es ∧ entB l n = true := by unfold entL entB; rw [h]; exact ⟨rfl, rfl⟩
theorem entL_len (l : List Int) (n : Int) : (entL l n).length ≤ 1000000 := by
  cases h : entO l n with
  | none => rw [(ent_none h).1]; exact Nat.zero_le _
  | some es =>
    rw [(ent_some h).1, esI_len]
    unfold entO at h
    split at h
    · rename_i hc
      have := ent_len h
      simp at this
      omega
    · cases h
def RLB (l : List Int) (b : Bool) (w : World) (e : Ending) (w' : World) : Prop := ∃ v, e = .returned (.tuple #[v, .bool b]) ∧ Own w' w.heap.size v l ∧ Ext w w'
set_option maxHeartbeats 2000000 in
theorem entriesOf_c (l : List Int) (n : Int) (v : Value) (w : World) (hv : Ints w v l) : Calls Tryd.prog 12 #[v, .int .i64 n] w (RLB (entL l n) (entB l n) w) := by
  have Hv := Lib.hid hv
  clear hv
  by_cases hp : PatOk l
  · have Hp := Lib.hid hp
    by_cases hn : 0 ≤ n ∧ n ≤ 40
    · obtain ⟨n, rfl⟩ := Int.eq_ofNat_of_zero_le hn.1
      have HE := Lib.hid (entO_t (n := n) hp (by omega))
      have hm := maskN_lt hp
      have hmo := maskN_odd hp
      obtain ⟨m, hme⟩ : ∃ m, m = maskN l := ⟨_, rfl⟩
      rw [← hme] at hm hmo
      have Hme := Lib.hid hme
      have Hmo := Lib.hid hmo
      clear hp hmo
      go_enter Tryd.func12, Tryd.ntmps12
      go_wp2_with (first | (go_at_call 11; refine (patternOk_c l _ _ Hv.out).mono ?_; rintro e w1 ⟨b, rfl, hb, rfl⟩; obtain rfl := hb.2 Hp.out; clear hb) | (go_at_call 20; refine (within_t _ ?_).mono ?_; (focus omega); rintro e w1 ⟨rfl, rfl⟩) | (go_at_call 20; refine (within_f _ ?_).mono ?_; (focus omega); rintro e w1 ⟨rfl, rfl⟩) | (go_at_call 21; refine (newLine_c l _ _ (Hv.out.alloc _) Hp.out).mono ?_; rintro e w1 ⟨rfl, hb1, hx1⟩))
      rw [← hme] at hb1
      have Hb1 := Lib.hid hb1
      clear hb1 hme
      have hsz : (w.alloc (.cells #[] 3)).heap.size = w.heap.size + 1 := by simp
      rw [hsz] at Hb1
      have hx0 : Ext w w1 := Ext.tr ((Below.refl _ _).alloc (Nat.le_refl _) _) hx1
      have Ho0 := Lib.hid ((Own.empty (w := w) (B := w.heap.size) (Nat.le_refl _)).ext hx1)
      clear hx1 hsz
      have hn40 : n ≤ 40 := by omega
      go_wp2
      go_loopw [6, 20] (fun o i wr => ∃ (k s t : Nat) (es : List Nat), k ≤ n ∧ i = .int .i64 k ∧ s < 8192 ∧ t ≤ 14 * k ∧ Hid (es.length = k) ∧ Hid (s % 2 = 0) ∧ Hid (ent (maskN l) (n - k) s t es = entO l n) ∧ Hid (Own wr w.heap.size o (esI es)) ∧ Hid (Blk wr (w.heap.size + 1) 46 (lnC t s m)) ∧ Ext w wr)
        (fun _ i _ => n - (intOf i).toNat)
      case atStart => exact ⟨0, 0, 0, [], Nat.zero_le _, rfl, by omega, by omega, rfl, rfl, HE.out.symm, Ho0.out, Hb1.out, hx0⟩
      case round =>
        clear Ho0 Hb1 hx0
        obtain ⟨k, s, t, es, hk, rfl, hs, ht, hes, hse, hrun, hown, hblk, hx⟩ := hrel
        by_cases hkn : k < n
        · obtain ⟨A, c, hv1, hlc, hcm⟩ := hown.out.slice
          rw [esI_len, hes.out] at hv1 hlc
          subst hv1
          have hst := step_facts Hmo.out hm hs hse.out
          obtain ⟨f, hf⟩ : ∃ f, n - k = f + 1 := ⟨n - k - 1, by omega⟩
          have hf2 : Hid (n - (k + 1) = f) := by unfold Hid; omega
          have c0 : wr.cell? ⟨w.heap.size + 1, 0, none⟩ = some (.int .i64 t) := hblk.out.cell 0
          have hne : Hid (Value.ownBlock (.slice A k c) ≠ some (w.heap.size + 1)) := own_blk_ne hown.out hblk.out (by decide)
          have Hf := Lib.hid hf
          clear hf
          go_wp2_with (first | (at_builtin; refine wp_append1 rfl (.tmp 22) (.tmp 27) rfl rfl rfl hown.out (by unfold I64; omega) (by rw [esI_len, hes.out]; omega) hx.size ?_; intro v' w2 ho hg hb2 hat))
          have Hown2 : Hid (Own w2 w.heap.size v' (esI (es ++ [t]))) := by unfold Hid; rw [esI_snoc]; exact ho
          have Hblk2 : Hid (Blk w2 (w.heap.size + 1) 46 (lnC t s m)) := hblk.out.grown hg hne.out
          obtain ⟨A2, cc2, hv2, hlc2, hcm2⟩ := Hown2.out.slice
          have hle2 : (es ++ [t]).length = k + 1 := by simp [hes.out]
          rw [esI_len, hle2] at hv2 hlc2
          subst hv2
          have Hle2 := Lib.hid hle2
          have hx2 : Ext w w2 := hx.trans hb2
          clear ho hg hb2 hat c0 hown hblk hle2
          by_cases hand : s &&& m = 0
          · have hne2 : Hid (Value.ownBlock (.slice A2 (k + 1) cc2) ≠ some (w.heap.size + 1)) := own_blk_ne Hown2.out Hblk2.out (by decide)
            have hro : Hid (ent (maskN l) (n - (k + 1)) (D (s + m)).1 (t + (D (s + m)).2) (es ++ [t]) = entO l n) := by
              unfold Hid
              rw [← hrun.out, Hf.out, hf2.out, ← Hme.out, ent_on hand]
            have Hand := Lib.hid hand
            clear hand
            go_wp2_with (first | (go_at_call 22; refine (lay_t _ _ _ _ _ Hblk2.out hm hs (by omega) Hand.out).mono ?_; rintro e w3 ⟨rfl, hb3, hg3⟩))
            go_roundw
            case rel => exact ⟨k + 1, (D (s + m)).1, t + (D (s + m)).2, es ++ [t], by omega, by go_num, hst.1, by omega, Hle2.out, hst.2.1, hro.out, Hown2.out.kept hg3 (.inr hne2.out), hb3, hx2.grown hg3 hx2.size (fun k hk => by cases hk; omega)⟩
            case measure => simp [intOf]; omega
          · have H : Hid (entL l n = [] ∧ entB l n = false) := ent_none (by rw [← hrun.out, Hf.out, ← Hme.out, ent_off hand])
            have Hand := Lib.hid hand
            clear hand
            go_wp2_with (first | (go_at_call 22; refine (lay_f _ _ _ _ _ Hblk2.out hm hs Hand.out).mono ?_; rintro e w3 ⟨rfl, hb3, hg3⟩))
            go_ret2
            exact ⟨_, by rw [H.out.2]; rfl, by rw [H.out.1]; exact Own.nil _ _, hx2.grown hg3 hx2.size (fun k hk => by cases hk; omega)⟩
        · have H : Hid (entL l n = esI es ∧ entB l n = true) := ent_some (by rw [← hrun.out, show n - k = 0 by omega]; rfl)
          go_wp2
          go_ret2
          exact ⟨_, by rw [H.out.2]; rfl, by rw [H.out.1]; exact hown.out, hx⟩
    · have H := Lib.hid (ent_none (entO_f (l := l) (n := n) (fun h => hn h.2)))
      clear hp
      go_enter Tryd.func12, Tryd.ntmps12
      go_wp2_with (first | (go_at_call 11; refine (patternOk_c l _ _ Hv.out).mono ?_; rintro e w1 ⟨b, rfl, hb, rfl⟩; obtain rfl := hb.2 Hp.out; clear hb) | (go_at_call 20; refine (within_t _ ?_).mono ?_; (focus omega); rintro e w1 ⟨rfl, rfl⟩) | (go_at_call 20; refine (within_f _ ?_).mono ?_; (focus omega); rintro e w1 ⟨rfl, rfl⟩))
      go_ret2
      exact ⟨_, by rw [H.out.2]; rfl, by rw [H.out.1]; exact Own.nil _ _, Below.refl _ _⟩
  · have H := Lib.hid (ent_none (entO_f (l := l) (n := n) (fun h => hp h.1)))
    have Hp := Lib.hid hp
    clear hp
    go_enter Tryd.func12, Tryd.ntmps12
    go_wp2_with (first | (go_at_call 11; refine (patternOk_c l _ _ Hv.out).mono ?_; rintro e w1 ⟨b, rfl, hb, rfl⟩; obtain rfl := bool_f hb Hp.out; clear hb))
    go_ret2
    exact ⟨_, by rw [H.out.2]; rfl, by rw [H.out.1]; exact Own.nil _ _, Below.refl _ _⟩
end Go.Proofs.YtkdodbhkobefiaaDoor
