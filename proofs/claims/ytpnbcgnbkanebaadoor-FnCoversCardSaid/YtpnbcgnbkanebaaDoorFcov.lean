/- Contract: covers: all covers of n times by a pattern and its mirror, in order. -/
import Derived.Test.YtpnbcgnbkanebaaDoorFcvs
import Derived.Test.YtpnbcgnbkanebaaDoorFeq
import Derived.Laws.EntriesVeiled
namespace Go.Proofs.YtpnbcgnbkanebaaDoor
open Go.RowKit
theorem TabAt.ext {g : Nat} {tab : List Nat} {w w' : World} (h : TabAt g tab w) (hx : Ext w w') : TabAt g tab w' := fun j hj => hx.cell_of (h j hj)
theorem Blk.cell0 {w : World} {g : Nat} {t : TypeId} {x : Value} (h : Blk w g t #[x]) : w.cell? ⟨g, 0, none⟩ = some x := h.cell 0
/-- the closure, as covers calls it first -/
theorem covers_run (n kd : Nat) (p : List Int) (pv : Value) (bn bk bp : Nat) (w : World) (hp : PatOk p) (hn : n ≤ 24) (hkd : kd = if maskN (mirL p) = maskN p then 1 else 2)
    (h1 : Blk w bn 3 #[.int .i64 n]) (h2 : Blk w bk 3 #[.int .i64 kd]) (h3 : Blk w bp 22 #[pv]) (hI : Ints w pv p) (ht : TabAt 1 Lib.deBruijn64tab w) :
    Calls Tryd.prog 40 #[.slice none 0 0, .int .i64 0, .pointer (some ⟨bn, 0, none⟩), .pointer (some ⟨w.heap.size, 0, none⟩), .pointer (some ⟨bk, 0, none⟩), .pointer (some ⟨bp, 0, none⟩), .pointer (some ⟨w.heap.size + 1, 0, none⟩)]
      ((w.alloc (.cells #[.slice none 0 0] 30)).alloc (.cells #[.func (.func 40) #[] #[.pointer (some ⟨bn, 0, none⟩), .pointer (some ⟨w.heap.size, 0, none⟩), .pointer (some ⟨bk, 0, none⟩), .pointer (some ⟨bp, 0, none⟩), .pointer (some ⟨w.heap.size + 1, 0, none⟩)]] 47))
      fun e w' => (∃ r, e = .returned r) ∧ ∃ o us, w'.cell? ⟨w.heap.size, 0, none⟩ = some o ∧ Lss w' w.heap.size o us (cv (maskN p) (maskN (mirL p)) n (n + 1) 0 0) ∧ Ext w w' := by
  obtain ⟨F, hF⟩ : ∃ F : Value, F = .func (.func 40) #[] #[.pointer (some ⟨bn, 0, none⟩), .pointer (some ⟨w.heap.size, 0, none⟩), .pointer (some ⟨bk, 0, none⟩), .pointer (some ⟨bp, 0, none⟩), .pointer (some ⟨w.heap.size + 1, 0, none⟩)] := ⟨_, rfl⟩
  rw [← hF]
  have hxa : Ext w (w.alloc (.cells #[.slice none 0 0] 30)) := one_boxC w _
  have hxb := one_boxC (w.alloc (.cells #[.slice none 0 0] 30)) (.cells #[F] 47)
  have hx := hxa.tr hxb
  have hbo : Blk ((w.alloc (.cells #[.slice none 0 0] 30)).alloc (.cells #[F] 47)) w.heap.size 30 #[.slice none 0 0] := (Blk.new w _ _).alloc _
  have hbe : Blk ((w.alloc (.cells #[.slice none 0 0] 30)).alloc (.cells #[F] 47)) (w.heap.size + 1) 47 #[F] := by
    simpa only [World.size_alloc] using Blk.new (w.alloc (.cells #[.slice none 0 0] 30)) 47 #[F]
  have hs : w.heap.size + 2 = ((w.alloc (.cells #[.slice none 0 0] 30)).alloc (.cells #[F] 47)).heap.size := by simp only [World.size_alloc]
  have hIlt : ∀ A m c, pv = .slice (some A) m c → A.block ≠ w.heap.size := fun A m c he => by
    obtain ⟨ad, c', rfl, _, _⟩ := hI.form hp.1
    simp only [Value.slice.injEq, Option.some.injEq] at he
    obtain ⟨rfl, _, _⟩ := he
    have h0 := World.block_lt_of_cell? w _ (hI.cell hp.2.1)
    rw [block_of_add] at h0
    omega
  have ht0 := World.block_lt_of_cell? w _ (ht 0 (by decide))
  have hlt1 := h1.lt
  have hlt2 := h2.lt
  have hlt3 := h3.lt
  have henv : CEnv ((w.alloc (.cells #[.slice none 0 0] 30)).alloc (.cells #[F] 47)) n kd p pv bn w.heap.size bk bp (w.heap.size + 1) :=
    ⟨(h1.ext hx).cell 0, (h2.ext hx).cell 0, (h3.ext hx).cell 0, by rw [← hF]; exact hbe.cell 0, hI.ext hx, TabAt.ext ht hx, by omega, by omega, by omega, by omega, by simp only at ht0; omega, hIlt⟩
  have hst : CSt ((w.alloc (.cells #[.slice none 0 0] 30)).alloc (.cells #[F] 47)) ((w.alloc (.cells #[.slice none 0 0] 30)).alloc (.cells #[F] 47)) w.heap.size (.slice none 0 0) [] [] :=
    ⟨grownBy_of_ext (Below.refl _ _) _, hbo, Lss.nil _ _⟩
  have hrun := coverF_c n kd p pv bn w.heap.size bk bp (w.heap.size + 1) _ hp hn hkd (by omega) henv (n + 1) 0 0 (.slice none 0 0) (.slice none 0 0) [] [] [] _ (Nat.zero_le _) (Nat.two_pow_pos _) rfl (by omega) (by omega) (Nat.le_refl _)
    (by have : (2 : Nat) ^ (n + 1) ≤ 2 ^ 25 := Nat.pow_le_pow_right (by decide) (by omega); simp only [List.length_nil]; omega) hst (Own.nil _ _) (.inl rfl) (fun u hu => by cases hu)
  refine hrun.mono ?_
  rintro e w' ⟨hr, o', vs, hst', _, _, _, _⟩
  refine ⟨hr, o', vs, hst'.blk.cell 0, ?_, ?_⟩
  · have := hst'.rows
    simp only [List.nil_append, List.map_id'] at this
    exact this.base (by omega)
  · have hg := hst'.gr
    refine ⟨?_, ?_, ?_, ?_, fun k hk => ?_⟩
    · rw [hg.os, hx.os]
    · rw [hg.tape, hx.tape]
    · rw [hg.output, hx.output]
    · have := hg.size; have := hx.size; omega
    · rw [hg.block k (by omega) (by intro e; cases e; omega), hx.block k hk]
set_option maxRecDepth 100000 in
set_option maxHeartbeats 2000000 in
theorem covers_c (p : List Int) (n : Nat) (pv : Value) (w : World) (hv : Ints w pv p) (hp : PatOk p) (hn : n ≤ 24) (ht : TabAt 1 Lib.deBruijn64tab w) :
    Calls Tryd.prog 29 #[pv, .int .i64 n] w (RLs (cv (maskN p) (maskN (mirL p)) n (n + 1) 0 0) w) := by
  obtain ⟨A, c, hve, _, _⟩ := hv.form0
  obtain ⟨m, hme⟩ : ∃ m, m = p.length := ⟨_, rfl⟩
  rw [← hme] at hve
  clear hme
  subst hve
  have hx0 : Ext w (((w.alloc (.cells #[.slice A m c] 22)).alloc (.cells #[.int .i64 n] 3)).alloc (.cells #[.int .i64 2] 3)) := ((one_boxC w _).tr (one_boxC _ _)).tr (one_boxC _ _)
  have hb1 : Blk (((w.alloc (.cells #[.slice A m c] 22)).alloc (.cells #[.int .i64 n] 3)).alloc (.cells #[.int .i64 2] 3)) w.heap.size 22 #[.slice A m c] := ((Blk.new w _ _).alloc _).alloc _
  have hb2 : Blk (((w.alloc (.cells #[.slice A m c] 22)).alloc (.cells #[.int .i64 n] 3)).alloc (.cells #[.int .i64 2] 3)) (w.heap.size + 1) 3 #[.int .i64 n] := by
    have := (Blk.new (w.alloc (.cells #[.slice A m c] 22)) 3 #[.int .i64 n]).alloc (.cells #[.int .i64 2] 3)
    simpa only [World.size_alloc] using this
  have hb3 : Blk (((w.alloc (.cells #[.slice A m c] 22)).alloc (.cells #[.int .i64 n] 3)).alloc (.cells #[.int .i64 2] 3)) (w.heap.size + 2) 3 #[.int .i64 2] := by
    have := Blk.new ((w.alloc (.cells #[.slice A m c] 22)).alloc (.cells #[.int .i64 n] 3)) 3 #[.int .i64 2]
    simpa only [World.size_alloc] using this
  have Hx0 := Lib.hid hx0
  have Hb1 := Lib.hid hb1
  have Hb2 := Lib.hid hb2
  have Hb3 := Lib.hid hb3
  have Hv := Lib.hid hv
  have Hp := Lib.hid hp
  have Ht := Lib.hid ht
  clear hx0 hb1 hb2 hb3 hv hp ht
  by_cases hm : mirL p = p
  · have Hkd : Hid (1 = if maskN (mirL p) = maskN p then 1 else 2) := by unfold Hid; rw [hm, if_pos rfl]
    have Hm := Lib.hid hm
    clear hm
    go_enter Tryd.func29, Tryd.ntmps29
    go_wp2
    (go_region_held3 (fun w' => w'.cell? ⟨w.heap.size, 0, none⟩ = some (.slice A m c))
          (first | with_reducible exact ((Hb1.out.ext (ext_ofDC hx1)).ext hx2).cell0 | with_reducible exact (Hb1.out.ext (ext_ofDC hx1)).cell0 | (go_keep; done))
          (first
            | (go_at_call 35; refine (mirL_c p _ _ (Ints.drew (Hv.out.ext Hx0.out)) Hp.out).mono ?_; rintro e w1 ⟨v1, rfl, ho1, hx1⟩)
            | (go_at_call 31; refine (slEqual_c (mirL p) p _ _ _ ho1.ints ((Hv.out.ext Hx0.out).ext (ext_ofDC hx1))).mono ?_; rintro e w2 ⟨b, rfl, hb, hx2⟩; obtain rfl := hb.2 Hm.out; clear hb)))
    have hX2 : Ext (((w.alloc (.cells #[.slice A m c] 22)).alloc (.cells #[.int .i64 n] 3)).alloc (.cells #[.int .i64 2] 3)) w2 := (ext_ofDC hx1).tr hx2
    have hk2 := Hb3.out.ext hX2
    have hkc := hk2.cell0
    have hkf := hk2.frozen 0
    have Hk2 := Lib.hid hk2
    have HX2 := Lib.hid hX2
    have HC : Hid (Calls Tryd.prog 40 #[.slice none 0 0, .int .i64 0, .pointer (some ⟨w.heap.size + 1, 0, none⟩), .pointer (some ⟨w2.heap.size, 0, none⟩), .pointer (some ⟨w.heap.size + 2, 0, none⟩), .pointer (some ⟨w.heap.size, 0, none⟩), .pointer (some ⟨w2.heap.size + 1, 0, none⟩)]
      (((w2.setCell ⟨w.heap.size + 2, 0, none⟩ (.int .i64 1)).alloc (.cells #[.slice none 0 0] 30)).alloc (.cells #[.func (.func 40) #[] #[.pointer (some ⟨w.heap.size + 1, 0, none⟩), .pointer (some ⟨w2.heap.size, 0, none⟩), .pointer (some ⟨w.heap.size + 2, 0, none⟩), .pointer (some ⟨w.heap.size, 0, none⟩), .pointer (some ⟨w2.heap.size + 1, 0, none⟩)]] 47))
      fun e w' => (∃ r, e = .returned r) ∧ ∃ o us, w'.cell? ⟨w2.heap.size, 0, none⟩ = some o ∧ Lss w' w2.heap.size o us (cv (maskN p) (maskN (mirL p)) n (n + 1) 0 0) ∧ Ext w w') := by
      have hz := Hx0.out.size
      have hz2 := HX2.out.size
      simp only [World.size_alloc] at hz2
      have hset := grownBy_set w2 (w.heap.size + 2) 0 (.int .i64 1)
      have hxw : Ext w (w2.setCell ⟨w.heap.size + 2, 0, none⟩ (.int .i64 1)) := (Hx0.out.tr HX2.out).grown hset (by omega) (by intro k hk; cases hk; omega)
      have hr := covers_run n 1 p (.slice A m c) (w.heap.size + 1) (w.heap.size + 2) w.heap.size (w2.setCell ⟨w.heap.size + 2, 0, none⟩ (.int .i64 1)) Hp.out hn Hkd.out
        ((Hb2.out.ext HX2.out).far (by simp) _) (Hk2.out.set_ 0 _) ((Hb1.out.ext HX2.out).far (by simp) _) (Hv.out.ext hxw) (TabAt.ext Ht.out hxw)
      have e : (w2.setCell ⟨w.heap.size + 2, 0, none⟩ (.int .i64 1)).heap.size = w2.heap.size := by simp [World.setCell]
      rw [e] at hr
      refine hr.mono ?_
      rintro e w' ⟨h1, o, us, h2, h3, h4⟩
      exact ⟨h1, o, us, h2, h3, hxw.tr h4⟩
    clear hx1 hx2 hX2 hk2
    go_wp2_with (first | (go_at_call 40; refine HC.out.mono ?_; rintro e w6 ⟨⟨r, rfl⟩, o, us, hco, hls, hx6⟩; obtain ⟨A6, c6, ho6, _, _⟩ := hls.form; subst ho6))
    go_ret
    exact ⟨_, us, rfl, hls.base (by have := Hx0.out.size; have := HX2.out.size; omega), hx6⟩
  · have Hkd : Hid (2 = if maskN (mirL p) = maskN p then 1 else 2) := by unfold Hid; rw [if_neg (fun e => hm (mask_inj (mirL_ok Hp.out) Hp.out e))]
    have Hm := Lib.hid hm
    clear hm
    go_enter Tryd.func29, Tryd.ntmps29
    go_wp2
    (go_region_held3 (fun w' => w'.cell? ⟨w.heap.size, 0, none⟩ = some (.slice A m c))
          (first | with_reducible exact ((Hb1.out.ext (ext_ofDC hx1)).ext hx2).cell0 | with_reducible exact (Hb1.out.ext (ext_ofDC hx1)).cell0 | (go_keep; done))
          (first
            | (go_at_call 35; refine (mirL_c p _ _ (Ints.drew (Hv.out.ext Hx0.out)) Hp.out).mono ?_; rintro e w1 ⟨v1, rfl, ho1, hx1⟩)
            | (go_at_call 31; refine (slEqual_c (mirL p) p _ _ _ ho1.ints ((Hv.out.ext Hx0.out).ext (ext_ofDC hx1))).mono ?_; rintro e w2 ⟨b, rfl, hb, hx2⟩; obtain rfl := bool_f hb Hm.out; clear hb)))
    have hX2 : Ext (((w.alloc (.cells #[.slice A m c] 22)).alloc (.cells #[.int .i64 n] 3)).alloc (.cells #[.int .i64 2] 3)) w2 := (ext_ofDC hx1).tr hx2
    have hk2 := Hb3.out.ext hX2
    have Hk2 := Lib.hid hk2
    have HX2 := Lib.hid hX2
    have HC : Hid (Calls Tryd.prog 40 #[.slice none 0 0, .int .i64 0, .pointer (some ⟨w.heap.size + 1, 0, none⟩), .pointer (some ⟨w2.heap.size, 0, none⟩), .pointer (some ⟨w.heap.size + 2, 0, none⟩), .pointer (some ⟨w.heap.size, 0, none⟩), .pointer (some ⟨w2.heap.size + 1, 0, none⟩)]
      ((w2.alloc (.cells #[.slice none 0 0] 30)).alloc (.cells #[.func (.func 40) #[] #[.pointer (some ⟨w.heap.size + 1, 0, none⟩), .pointer (some ⟨w2.heap.size, 0, none⟩), .pointer (some ⟨w.heap.size + 2, 0, none⟩), .pointer (some ⟨w.heap.size, 0, none⟩), .pointer (some ⟨w2.heap.size + 1, 0, none⟩)]] 47))
      fun e w' => (∃ r, e = .returned r) ∧ ∃ o us, w'.cell? ⟨w2.heap.size, 0, none⟩ = some o ∧ Lss w' w2.heap.size o us (cv (maskN p) (maskN (mirL p)) n (n + 1) 0 0) ∧ Ext w w') := by
      have hz := Hx0.out.size
      have hz2 := HX2.out.size
      simp only [World.size_alloc] at hz2
      have hxw : Ext w w2 := Hx0.out.tr HX2.out
      have hr := covers_run n 2 p (.slice A m c) (w.heap.size + 1) (w.heap.size + 2) w.heap.size w2 Hp.out hn Hkd.out
        (Hb2.out.ext HX2.out) Hk2.out (Hb1.out.ext HX2.out) (Hv.out.ext hxw) (TabAt.ext Ht.out hxw)
      refine hr.mono ?_
      rintro e w' ⟨h1, o, us, h2, h3, h4⟩
      exact ⟨h1, o, us, h2, h3, hxw.tr h4⟩
    clear hx1 hx2 hX2 hk2
    go_wp2_with (first | (go_at_call 40; refine HC.out.mono ?_; rintro e w6 ⟨⟨r, rfl⟩, o, us, hco, hls, hx6⟩; obtain ⟨A6, c6, ho6, _, _⟩ := hls.form; subst ho6))
    go_ret
    exact ⟨_, us, rfl, hls.base (by have := Hx0.out.size; have := HX2.out.size; omega), hx6⟩
end Go.Proofs.YtpnbcgnbkanebaaDoor
