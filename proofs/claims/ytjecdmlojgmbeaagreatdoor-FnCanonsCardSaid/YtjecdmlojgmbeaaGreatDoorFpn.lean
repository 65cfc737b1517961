/- Contract: PartnersOf (the reference's), at a rhythm of at most twelve pulses. -/
import Derived.Test.YtjecdmlojgmbeaaGreatDoorFfd
import Derived.Test.YtjecdmlojgmbeaaGreatDoorFrok
namespace Go.Proofs.YtjecdmlojgmbeaaGreatDoor
open Go.RowKit
theorem ext_fresh {w a b : World} {g : Nat} (h : Ext w a) (hg : a.grownBy b (some g)) (hB : w.heap.size ≤ g) : Ext w b :=
  h.grown hg h.size fun k hk => by cases hk; exact hB
theorem Apart.fresh {w : World} {B N : Nat} {v : Value} {l : List Int} (h : Own w B v l) (hN : w.heap.size ≤ N) : Apart v (.slice (some ⟨N, 0, none⟩) 0 0) := by
  unfold Apart
  cases e : v.ownBlock with
  | none => exact .inl rfl
  | some k => right; have := (h.lt k e).2; simp [Value.ownBlock]; omega
set_option maxRecDepth 100000 in
set_option maxHeartbeats 1000000 in
theorem partnersOf_c (n : Nat) (a : List Int) (v : Value) (w : World) (B : Nat) (hv : Own w B v a) (hok : RhyOk n a) (hn : n ≤ 12) (hk1 : 1 ≤ a.length) (hdv : n % a.length = 0) (hB : B ≤ w.heap.size) : Calls Tryz.prog 39 #[.agg #[.int .i64 n, v]] w fun e w' => ∃ u us, e = .returned u ∧ RsI w' B u us (TileP n a) ∧ us.length ≤ 4096 ∧ Ext w w' := by
  have HI := Lib.hid (FI.start hok hn hk1 hdv)
  have Hok := Lib.hid hok
  have Hvo := Lib.hid hv
  have hvi := hv.ints
  have hn1 := hok.1
  have hkl := hok.len
  clear hok hdv
  obtain ⟨A, c, hve, _, _⟩ := hvi.form0
  obtain ⟨k, hk⟩ : ∃ k, k = a.length := ⟨_, rfl⟩
  rw [← hk] at hve hk1 hkl
  have hdv : n % k = 0 := by rw [hk]; exact HI.out.dv
  subst hve
  have hx := one_box w (.cells #[.int .i64 (n : Int), .slice A k c] 25)
  have ha := RVar.new (T := 25) w n (.slice A k c)
  have Hk := Lib.hid hk
  have Hv := Lib.hid (hvi.ext hx)
  have Hx := Lib.hid hx
  have Ha := Lib.hid ha
  have HB := Lib.hid hB
  clear hv hvi hx hk ha hB
  have hc0 := Ha.out.c0
  have hc1 := Ha.out.c1
  have hk0 : ((k : Int) == 0) = false := by rw [beq_eq_false_iff_ne]; omega
  have hdi : (n : Int) % (k : Int) = 0 := by rw [← Int.natCast_emod, hdv]; rfl
  have hk00 : ¬ k = 0 := by omega
  have hk0i : (1 : Int) ≤ (k : Int) := by omega
  clear hdv
  go_enter Tryz.func39, Tryz.ntmps39
  go_wp2_with (first | (go_at_call 50; refine (specRhythmOk_c (n : Int) a _ _ Hv.out).mono ?_; rintro e w2 ⟨b2, rfl, hb2, hx2⟩; (obtain rfl := hb2.2 Hok.out; clear hb2; have V2 := Lib.hid (Ha.out.ext hx2); have O2 := Lib.hid (Hvo.out.ext (Hx.out.tr hx2)); have X2 := Lib.hid (Hx.out.tr hx2); clear hc0 hc1 hx2; have hc0 := V2.out.c0; have hc1 := V2.out.c1)) | (go_at_call 51; have hw3 := one_box w2 (.cells #[] 25); have hsz := X2.out.size; have Hn0 := Lib.hid (RsI.empty (w := w2) (B := B) (P := TileP n a) (Nat.le_trans HB.out hsz)); refine (l09Find_c n a B n 0 [] _ (.slice none 0 0) _ _ [] (by omega) HI.out (O2.out.ext hw3) (Own.nil _ _) Hn0.out (Apart.fresh O2.out (Nat.le_refl _)) (.inl rfl) (by have : 2 ^ n ≤ 2 ^ 12 := Nat.pow_le_pow_right (by omega) (by omega); rw [List.length_nil]; omega) (Nat.le_trans HB.out (Nat.le_trans hsz hw3.size))).mono ?_; rintro e w4 ⟨u4, us4, rfl, hR4, hm4, hg4, _⟩; obtain ⟨A4, c4, rfl, _, _⟩ := hR4.form; have X4 := Lib.hid (ext_fresh (X2.out.tr hw3) hg4 hsz); have hm5 : us4.length ≤ 4096 := (by have : 2 ^ n ≤ 2 ^ 12 := Nat.pow_le_pow_right (by omega) (by omega); rw [List.length_nil] at hm4; omega); have H4 := Lib.hid hR4; have Hm5 := Lib.hid hm5; clear hR4 hm4 hm5 hg4))
  go_ret
  exact ⟨_, us4, rfl, H4.out, Hm5.out, X4.out⟩
end Go.Proofs.YtjecdmlojgmbeaaGreatDoor
