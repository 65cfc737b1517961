/- Contracts: slices.Contains, has; MeetingsOf and FirstMeeting on both sides. -/
import Derived.Test.YtnbfcdanpplllaaFpol
import Derived.Test.YtnbfcdanpplllaaFmap
import Derived.Lib.SliceRun
namespace Go.Proofs.Ytnbfcdanpplllaa
open Go.RowKit
theorem ext_drewN' {w w' : World} {n : Nat} (h : Ext (w.drewN n) w') : Ext w w' := ⟨h.os, h.tape, h.output, h.size, h.block⟩
theorem Own.sub {w : World} {B g n c q : Nat} {l : List Int} (h : Own w B (.slice (some ⟨g, 0, none⟩) n c) l) (hq : q ≤ l.length) : Own w B (.slice (some ⟨g, 0, none⟩) q c) (l.take q) := by
  have hn := h.n_eq
  subst hn
  obtain ⟨⟨h1, h2⟩, hr⟩ := h
  refine ⟨⟨by simp, ?_⟩, fun x hx => hr x (List.mem_of_mem_take hx)⟩
  rcases h2 with ⟨h2, _⟩ | ⟨g', cap, cur, hv, hb, hg, hnc, hcm, hcs, htake⟩
  · cases h2
  · simp only [Value.slice.injEq, Option.some.injEq, Addr.mk.injEq] at hv
    obtain ⟨⟨rfl, _⟩, _, rfl⟩ := hv
    refine .inr ⟨g, c, cur, by rw [List.length_take, Nat.min_eq_left hq], hb, hg, by rw [List.length_take]; omega, hcm, hcs, ?_⟩
    rw [List.length_take, Nat.min_eq_left hq, Nat.mul_one, List.map_take, ← htake, List.take_take, Nat.mul_one, Nat.min_eq_left hq]
theorem Own.zeros {B g n c : Nat} : ∀ (m o : Nat) (w : World) (l : List Int), Own w B (.slice (some ⟨g, 0, none⟩) n c) l →
    ∃ l' : List Int, l'.length = l.length ∧ l'.take o = l.take o ∧ Own (w.setCells g o (List.replicate m (.int .i64 0))) B (.slice (some ⟨g, 0, none⟩) n c) l' ∧ w.grownBy (w.setCells g o (List.replicate m (.int .i64 0))) (some g)
  | 0, o, w, l, h => ⟨l, rfl, rfl, h, World.grownBy.refl _ _⟩
  | m + 1, o, w, l, h => by
    obtain ⟨h1, h2⟩ := h.stored o (x := 0) (by unfold I64; omega)
    obtain ⟨l', e1, e2, e3, e4⟩ := Own.zeros m (o + 1) _ _ h1
    refine ⟨l', by rw [e1, List.length_set], ?_, e3, grownBy_tr h2 e4⟩
    have := congrArg (List.take o) e2
    rw [List.take_take, List.take_take, Nat.min_eq_left (by omega)] at this
    rw [this, List.take_set_of_le (Nat.le_refl _)]
theorem slContains_c (l : List Int) (x : Int) (v : Value) (w : World) (hv : Ints w v l) : Calls Try.prog 36 #[v, .int .i64 x] w fun e w' => e = .returned (.bool (decide (x ∈ l))) ∧ w' = w := by
  by_cases hl : l.length = 0
  · have h0 : l = [] := List.eq_nil_of_length_eq_zero hl
    subst h0
    obtain ⟨A, c, rfl, _, _⟩ := hv.form0
    exact (Try.slices_Contains_int_empty A c x w).mono fun e w' ⟨he, hw⟩ => ⟨by rw [he]; simp, hw⟩
  obtain ⟨ad, c, rfl, _, _⟩ := hv.form (by omega)
  obtain ⟨b, o, rfl, hc⟩ := hv.plain (by omega)
  refine (Try.slices_Contains_int b o l.length c l x w (Nat.le_refl _) hv.len hc).mono fun e w' ⟨he, hw⟩ => ⟨?_, hw⟩
  rw [List.take_length] at he
  rw [he]; simp
set_option maxRecDepth 100000 in
theorem has_c (n : Nat) (l : List Int) (k : Int) (v : Value) (w : World) (hv : Ints w v l) (hn : 1 ≤ n ∧ n ≤ 1000) : Calls Try.prog 24 #[.agg #[.int .i64 n, v], .int .i64 k] w (RB (k % n ∈ l) w) := by
  obtain ⟨A, c, hve, _, _⟩ := hv.form0
  obtain ⟨m, hm⟩ : ∃ m, m = l.length := ⟨_, rfl⟩
  rw [← hm] at hve
  subst hve
  have hx := one_box w (.cells #[.int .i64 n, .slice A m c] 27)
  have ha := RVar.new (T := 27) w n (.slice A m c)
  have Hv := Lib.hid (hv.ext hx)
  have Hx := Lib.hid hx
  have Ra := Lib.hid ha
  clear hv hx hm ha
  have hc1 := Ra.out.c0
  have hc2 := Ra.out.c1
  obtain ⟨y, hy⟩ : ∃ y, k % (n : Int) = y := ⟨_, rfl⟩
  obtain ⟨b, hb⟩ : ∃ b, b = decide (y ∈ l) := ⟨_, rfl⟩
  have Hb := Lib.hid hb
  have HR : Hid (∀ w', Calls Try.prog 37 #[.int .i64 k, .int .i64 n] w' fun e w'' => e = .returned (.int .i64 y) ∧ w'' = w') := fun w' => (remainder_c k n w' hn.1 (by omega)).mono fun e w'' ⟨he, hw⟩ => ⟨by rw [he, hy], hw.symm⟩
  have HC : Hid (∀ w', Ints w' (.slice A m c) l → Calls Try.prog 36 #[.slice A m c, .int .i64 y] w' fun e w'' => e = .returned (.bool b) ∧ w'' = w') := fun w' h => by rw [hb]; exact slContains_c l y _ w' h
  have Hy := Lib.hid hy
  clear hy hb
  go_enter Try.func24, Try.ntmps24
  go_wp2
  go_quiet (first | (go_at_call 37; exact Calls.quiet_of_same (HR.out _)) | (go_at_call 36; exact Calls.quiet_of_same (HC.out _ (Hv.out.drewN _))))
  go_wp2
  go_ret
  exact ⟨b, rfl, by rw [Hb.out, Hy.out]; simp, below_drewN Hx.out _⟩
/-- the closure: there is no beat on the pulse -/
theorem meetCl_c (n : Nat) (bl : List Int) (p : Int) (b : Nat) (bv : Value) (w : World) (hb : RVar w b n bv) (hbl : Ints w bv bl) (hn : 1 ≤ n ∧ n ≤ 1000) : Calls Try.prog 27 #[.int .i64 p, .pointer (some ⟨b, 0, none⟩)] w (RB (¬ p % n ∈ bl) w) := by
  obtain ⟨A, c, hve, _, _⟩ := hbl.form0
  obtain ⟨m, hm⟩ : ∃ m, m = bl.length := ⟨_, rfl⟩
  rw [← hm] at hve
  subst hve
  have hc1 := hb.c0
  have hc2 := hb.c1
  have Hbl := Lib.hid hbl
  clear hbl hb hm
  go_enter Try.func27, Try.ntmps27
  go_wp2_with (first | (go_at_call 24; refine (has_c n bl p _ _ Hbl.out hn).mono ?_; rintro e w2 ⟨b2, rfl, hb2, hx2⟩))
  go_ret
  exact ⟨!b2, rfl, by cases b2 <;> simp_all, hx2⟩
/-- What the search for the first number leaves whose pulse has no beat. -/
def RIdx (n : Nat) (bl l : List Int) (w : World) (e : Ending) (w' : World) : Prop :=
  ∃ i : Int, e = .returned (.int .i64 i) ∧ Ext w w' ∧ ((i = -1 ∧ ∀ x ∈ l, x % (n : Int) ∈ bl) ∨ ∃ j : Nat, i = j ∧ j < l.length ∧ (∀ x ∈ l.take j, x % (n : Int) ∈ bl) ∧ ∃ x, l[j]? = some x ∧ ¬ x % (n : Int) ∈ bl)
set_option maxRecDepth 100000 in
theorem meetIdx_c (n : Nat) (bl l : List Int) (b : Nat) (bv v : Value) (w : World) (hv : Ints w v l) (hb : RVar w b n bv) (hbl : Ints w bv bl) (hn : 1 ≤ n ∧ n ≤ 1000) :
    Calls Try.prog 40 #[v, .func (.func 27) #[] #[.pointer (some ⟨b, 0, none⟩)]] w (RIdx n bl l w) := by
  obtain ⟨A, c, hve, _, _⟩ := hv.form0
  have hlen := hv.len
  obtain ⟨m, hm⟩ : ∃ m, m = l.length := ⟨_, rfl⟩
  rw [← hm] at hve hlen
  subst hve
  have Hv := Lib.hid hv
  have Hb := Lib.hid hb
  have Hbl := Lib.hid hbl
  have Hm := Lib.hid hm
  clear hv hb hbl hm
  go_enter Try.func40, Try.ntmps40
  go_wp2
  go_loopw [8] (fun i wr => ∃ j : Nat, j ≤ m ∧ i = .int .i64 j ∧ Hid ((∀ x ∈ l.take j, x % (n : Int) ∈ bl) ∧ Ext w wr)) (fun i _ => m - (intOf i).toNat)
  case atStart => exact ⟨0, Nat.zero_le _, rfl, by simp, Below.refl _ _⟩
  case round =>
    obtain ⟨j, hj, rfl, hr⟩ := hrel
    by_cases hjm : j < m
    · obtain ⟨ad, c', hA, _, _⟩ := Hv.out.form (by rw [← Hm.out]; omega)
      rw [← Hm.out] at hA
      obtain ⟨rfl, rfl⟩ : A = some ad ∧ c = c' := by simpa using hA
      obtain ⟨x, hx⟩ : ∃ x, l[j]? = some x := ⟨_, List.getElem?_eq_getElem (by rw [← Hm.out]; omega)⟩
      have hc := (Hv.out.ext hr.out.2).cell hx
      have Hxx := Lib.hid hx
      have hjm2 : (j : Int) < (m : Int) := by omega
      clear hx hA
      by_cases hin : x % (n : Int) ∈ bl
      · have Hin := Lib.hid hin
        have Hn : Hid (∀ y ∈ l.take (j + 1), y % (n : Int) ∈ bl) := by
          unfold Hid
          rw [take_succ Hxx.out]
          intro y hy
          rcases List.mem_append.1 hy with h | h
          · exact hr.out.1 y h
          · simp at h; rw [h]; exact hin
        clear hin
        go_wp2_with (first | (go_at_call 27; refine (meetCl_c n bl x b bv _ (Hb.out.ext hr.out.2) (Hbl.out.ext hr.out.2) hn).mono ?_; rintro e w2 ⟨b2, rfl, hb2, hx2⟩; obtain rfl := bool_f hb2 (fun h => h Hin.out); clear hb2))
        go_roundw
        case rel => exact ⟨j + 1, by omega, by go_num, Hn.out, hr.out.2.tr hx2⟩
        case measure => simp [intOf]; omega
      · have Hin := Lib.hid hin
        clear hin
        go_wp2_with (first | (go_at_call 27; refine (meetCl_c n bl x b bv _ (Hb.out.ext hr.out.2) (Hbl.out.ext hr.out.2) hn).mono ?_; rintro e w2 ⟨b2, rfl, hb2, hx2⟩; obtain rfl := hb2.2 Hin.out; clear hb2))
        go_ret
        exact ⟨j, rfl, hr.out.2.tr hx2, .inr ⟨j, rfl, by rw [← Hm.out]; exact hjm, hr.out.1, x, Hxx.out, Hin.out⟩⟩
    · obtain rfl : j = m := by omega
      go_wp2
      go_ret
      have h1 := hr.out.1
      rw [List.take_of_length_le (by rw [← Hm.out]; exact Nat.le_refl _)] at h1
      exact ⟨-1, rfl, hr.out.2, .inl ⟨rfl, h1⟩⟩
def keepL (n : Nat) (bl l : List Int) : List Int := l.filter fun x => decide (x % (n : Int) ∈ bl)
theorem keepL_t {n : Nat} {bl l : List Int} {j : Nat} {x : Int} (h : l[j]? = some x) (hx : x % (n : Int) ∈ bl) : keepL n bl (l.take (j + 1)) = keepL n bl (l.take j) ++ [x] := by
  unfold keepL; rw [take_succ h, List.filter_append]; simp [hx]
theorem keepL_f {n : Nat} {bl l : List Int} {j : Nat} {x : Int} (h : l[j]? = some x) (hx : ¬ x % (n : Int) ∈ bl) : keepL n bl (l.take (j + 1)) = keepL n bl (l.take j) := by
  unfold keepL; rw [take_succ h, List.filter_append]; simp [hx]
theorem keepL_all {n : Nat} {bl l : List Int} (h : ∀ x ∈ l, x % (n : Int) ∈ bl) : keepL n bl l = l := by
  unfold keepL; rw [List.filter_eq_self]; intro x hx; simpa using h x hx
set_option maxRecDepth 100000 in
set_option maxHeartbeats 1000000 in
theorem meetDel_c (n : Nat) (bl l : List Int) (b : Nat) (bv v : Value) (w0 w : World) (hv : Own w w0.heap.size v l) (hx : Ext w0 w) (hb : RVar w0 b n bv) (hbl : Ints w0 bv bl) (hn : 1 ≤ n ∧ n ≤ 1000) (hlen : l.length ≤ 1000) :
    Calls Try.prog 26 #[v, .func (.func 27) #[] #[.pointer (some ⟨b, 0, none⟩)]] w fun e w' => ∃ v', e = .returned v' ∧ Own w' w0.heap.size v' (keepL n bl l) ∧ Ext w0 w' := by
  obtain ⟨A, c, hve, _, _⟩ := hv.slice
  obtain ⟨m, hm⟩ : ∃ m, m = l.length := ⟨_, rfl⟩
  rw [← hm] at hve hlen
  subst hve
  have Hv := Lib.hid hv
  have Hb := Lib.hid hb
  have Hbl := Lib.hid hbl
  have Hm := Lib.hid hm
  have Hx := Lib.hid hx
  clear hv hb hbl hm hx
  go_enter Try.func26, Try.ntmps26
  go_wp2_with (first | (go_at_call 40; refine (meetIdx_c n bl l b bv _ _ Hv.out.ints (Hb.out.ext Hx.out) (Hbl.out.ext Hx.out) hn).mono ?_; rintro e w2 ⟨i, rfl, hx2, hi⟩; have Hx2 := Lib.hid hx2; clear hx2; rcases hi with ⟨rfl, hall⟩ | ⟨j0, rfl, hj0, hall, y, hy, hyn⟩))
  · go_ret
    exact ⟨_, rfl, by rw [keepL_all hall]; exact Hv.out.ext Hx2.out, Hx.out.tr Hx2.out⟩
  · have hjm : j0 < m := by rw [Hm.out]; exact hj0
    have H0 : Hid (keepL n bl (l.take (j0 + 1)) = l.take j0) := by unfold Hid; rw [keepL_f hy hyn]; exact keepL_all hall
    obtain ⟨g, cc, he, hBg, hgs, hlc, _, _⟩ := Hv.out.shape (by rw [← Hm.out]; omega)
    obtain ⟨rfl, rfl⟩ : A = some ⟨g, 0, none⟩ ∧ c = cc := by simp only [Value.slice.injEq] at he; exact ⟨he.1, he.2.2⟩
    have hb0 : ((j0 : Int) == -1) = false := by rw [beq_eq_false_iff_ne]; omega
    rw [← Hm.out] at hlc
    clear hall hy hyn hj0 he
    go_wp2
    go_loopw [5, 6, 7] (fun i jj _ wr => ∃ (q j : Nat) (cur : List Int), j ≤ m ∧ q < j ∧ i = .int .i64 q ∧ jj = .int .i64 j ∧ Hid (Own wr w0.heap.size (.slice (some ⟨g, 0, none⟩) m c) cur ∧ cur.length = m ∧ cur.take q = keepL n bl (l.take j) ∧ (∀ t, j ≤ t → cur[t]? = l[t]?) ∧ Ext w0 wr)) (fun _ i _ _ => m - (intOf i).toNat)
    case atStart =>
      have hw : wrap64 ((j0 : Int) + 1) = ((j0 + 1 : Nat) : Int) := by rw [IntWalk.wrap64_in _ ⟨by omega, by omega⟩]; rfl
      exact ⟨j0, j0 + 1, l, by omega, by omega, rfl, by rw [hw], Hv.out.ext Hx2.out, Hm.out.symm, H0.out.symm, fun t _ => rfl, Hx.out.tr Hx2.out⟩
    case round =>
      obtain ⟨q, j, cur, hj, hq, rfl, rfl, hr⟩ := hrel
      by_cases hjm' : j < m
      · obtain ⟨x, hx⟩ : ∃ x, l[j]? = some x := ⟨_, List.getElem?_eq_getElem (by rw [← Hm.out]; exact hjm')⟩
        have hcx := hr.out.1.cell (hr.out.2.2.2.1 j (Nat.le_refl _) |>.trans hx)
        have hxi : I64 x := Hv.out.2 x (List.mem_of_getElem? hx)
        have Hxx := Lib.hid hx
        have hjm2 : (j : Int) < (m : Int) := by omega
        have hqm2 : (q : Int) < (m : Int) := by omega
        clear hx
        by_cases hin : x % (n : Int) ∈ bl
        · have Hin := Lib.hid hin
          obtain ⟨z, hz⟩ : ∃ z, cur[q]? = some z := ⟨_, List.getElem?_eq_getElem (by rw [hr.out.2.1]; omega)⟩
          have Hz := Lib.hid hz
          clear hin hz
          go_wp2_with (first | (go_at_call 27; refine (meetCl_c n bl x b bv _ (Hb.out.ext hr.out.2.2.2.2) (Hbl.out.ext hr.out.2.2.2.2) hn).mono ?_; rintro e w3 ⟨b3, rfl, hb3, hx3⟩; obtain rfl := bool_f hb3 (fun h => h Hin.out); clear hb3; have hcq := (hr.out.1.ext hx3).cell Hz.out; have hfq := (hr.out.1.ext hx3).free q; have Hst := Lib.hid ((hr.out.1.ext hx3).stored q hxi)))
          go_roundw
          case rel =>
            repeat apply Exists.intro
            refine ⟨⟨q + 1, j + 1, cur.set q x, by omega, by omega, by go_num, by go_num, Hst.out.1, by rw [List.length_set]; exact hr.out.2.1, ?_, fun t ht => ?_, ?_⟩, rfl⟩
            · rw [keepL_t Hxx.out Hin.out, ← hr.out.2.2.1, take_succ (x := x) (by rw [List.getElem?_set_self (by rw [hr.out.2.1]; omega)]), List.take_set_of_le (Nat.le_refl _)]
            · rw [List.getElem?_set_ne (by omega)]; exact hr.out.2.2.2.1 t (by omega)
            · exact (hr.out.2.2.2.2.tr hx3).grown Hst.out.2 (hr.out.2.2.2.2.tr hx3).size fun k hk => by cases hk; exact hBg
          case measure => simp [intOf]; omega
        · have Hin := Lib.hid hin
          clear hin
          go_wp2_with (first | (go_at_call 27; refine (meetCl_c n bl x b bv _ (Hb.out.ext hr.out.2.2.2.2) (Hbl.out.ext hr.out.2.2.2.2) hn).mono ?_; rintro e w3 ⟨b3, rfl, hb3, hx3⟩; obtain rfl := hb3.2 Hin.out; clear hb3))
          go_roundw
          case rel =>
            repeat apply Exists.intro
            exact ⟨⟨q, j + 1, cur, by omega, by omega, rfl, by go_num, hr.out.1.ext hx3, hr.out.2.1, by rw [keepL_f Hxx.out Hin.out]; exact hr.out.2.2.1, fun t ht => hr.out.2.2.2.1 t (by omega), hr.out.2.2.2.2.tr hx3⟩, rfl⟩
          case measure => simp [intOf]; omega
      · obtain rfl : j = m := by omega
        obtain ⟨i0, hi, hz0, hz1, hz2⟩ := info_parts Try.infoInt
        have hcl : ∀ ty, (Builtin.clear_ #[25] ty #[.slice (some ⟨g, q, none⟩) (j - q) (c - q)]).run Try.prog wr = .ok (.tuple #[]) (wr.setCells g q (List.replicate (j - q) (.int .i64 0))) :=
          fun ty => Lib.run_clear_slice wr _ _ ty _ Try.underlying25 (fun w => by kernel_rfl) rfl rfl g q _ _ (by omega) (fun t ht => by
            obtain ⟨z, hz⟩ : ∃ z, cur[q + t]? = some z := ⟨_, List.getElem?_eq_getElem (by rw [hr.out.2.1]; omega)⟩
            rw [hr.out.1.cell hz]; rfl) (fun t ht => hr.out.1.free _)
        obtain ⟨l', e1, e2, e3, e4⟩ := Own.zeros (j - q) q _ _ hr.out.1
        have Hd := Lib.hid (e3.sub (q := q) (by rw [e1, hr.out.2.1]; omega))
        have H2 : Hid (l'.take q = keepL n bl l) := by
          unfold Hid
          rw [e2, hr.out.2.2.1, List.take_of_length_le (by rw [← Hm.out]; exact Nat.le_refl _)]
        have H4 : Hid (Ext w0 (wr.setCells g q (List.replicate (j - q) (.int .i64 0)))) := hr.out.2.2.2.2.grown e4 hr.out.2.2.2.2.size fun k hk => by cases hk; exact hBg
        clear e1 e2 e3 e4 hi hz0 hz1 hz2
        have hqj : (q : Int) ≤ (j : Int) := by omega
        go_wp2
        go_ret
        exact ⟨_, rfl, by rw [← H2.out]; exact Hd.out, H4.out⟩
end Go.Proofs.Ytnbfcdanpplllaa
