/- Contracts: ReadCanon on both sides. -/
import Derived.Test.YtjecdmlojgmbeaaGreatDoorFprs
import Derived.Test.YtjecdmlojgmbeaaGreatDoorSss
namespace Go.Proofs.YtjecdmlojgmbeaaGreatDoor
open Go.RowKit
theorem own_lit1 (w : World) (x : Int) (hx : I64 x) : Own (w.alloc (.cells #[.int .i64 x] 3)) w.heap.size (.slice (some ⟨w.heap.size, 0, none⟩) 1 1) [x] := by
  have h := World.ownsRow_lit (e := 3) (size := 1) w #[.int .i64 x] 1 (Nat.le_refl _) (by decide) rfl
  exact ⟨h, fun y hy => by simp at hy; subst hy; exact hx⟩
theorem apart_low {w : World} {B : Nat} {v u : Value} {l : List Int} (h : Own w B v l) (hu : ∀ k, u.ownBlock = some k → k < B) : Apart u v := by
  cases e : u.ownBlock with
  | none => exact .inl e
  | some k => right; rw [e]; intro e'; have := (h.lt k e'.symm).1; have := hu k e; omega
theorem rc_head {ss : List ByteArray} {s0 : ByteArray} (h : ss[0]? = some s0) : rcHead ss = s0 := by
  unfold rcHead
  cases ss with
  | nil => simp at h
  | cons a t => simp at h; subst h; rfl
theorem rcO_bad {ss : List ByteArray} (h : ¬ (prB (rcHead ss) = true ∧ ¬ prL (rcHead ss) = [] ∧ ¬ ss = [])) : rdcO ss = none := if_neg h
theorem rcO_good {ss : List ByteArray} (h : prB (rcHead ss) = true ∧ ¬ prL (rcHead ss) = [] ∧ ¬ ss = []) : rdcO ss = rdUp (rcHead ss).size (prL (rcHead ss)) ss ss.length := if_pos h
theorem rd_one {ss : List ByteArray} {s0 : ByteArray} (h : ss[0]? = some s0) (hp : prB s0 = true) : rdUp s0.size (prL s0) ss 1 = some [0] := by
  have h1 := pr_t hp
  have hq : nxt s0.size (prL s0) s0 (nextP []) = 0 := nxt_hit (by show 0 < s0.size; omega) (rt_zero hp)
  have := rd_some (n := s0.size) (l := prL s0) (ss := ss) (k := 0) (es := []) rfl h (by rw [hq]; omega)
  rw [hq] at this
  exact this
theorem rd_at {n : Nat} {l : List Int} {ss : List ByteArray} {k : Nat} {es : List Int} (h : rdUp n l ss (k + 1) = some es) : ∃ e0 : Nat, es[k]? = some (e0 : Int) ∧ e0 < n ∧ nextP es = e0 + 1 ∧ es.length = k + 1 := by
  obtain ⟨h1, h2, h3, h4, h5⟩ := rd_ok h
  have hl := lastI_get (l := es) (by omega)
  rw [h1, Nat.add_sub_cancel] at hl
  have hr := h3 _ (List.mem_of_getElem? hl)
  obtain ⟨e0, he⟩ := Int.eq_ofNat_of_zero_le hr.1
  refine ⟨e0, by rw [hl, he], by omega, ?_, h1⟩
  unfold nextP
  rw [if_neg (by intro e; rw [e] at h1; simp at h1), he]
  simp
set_option maxRecDepth 100000 in
set_option maxHeartbeats 4000000 in
theorem readCanon_c (ss : List ByteArray) (us : List Value) (v : Value) (B : Nat) (w : World) (h : Sss w B v us ss) (hlen : ss.length ≤ 1048576) (hsz : ∀ s ∈ ss, s.size ≤ 1048576) : Calls Tryz.prog 17 #[v] w (RCB (rdcN ss) (rdcI ss) (rdcN ss) (rcE ss) (rdcB ss) w) := by
  have hx0 := one_box w (.cells #[.int .i64 0, .slice none 0 0, .int .i64 0, .slice none 0 0] 29)
  have Hq := Lib.hid (CVar.new (T := 29) w 0 (.slice none 0 0) 0 (.slice none 0 0))
  have HX := Lib.hid hx0
  obtain ⟨A, c, hv, hqc, hcm⟩ := h.form
  have hul := h.len
  obtain ⟨q, hq⟩ : ∃ q, q = us.length := ⟨_, rfl⟩
  rw [← hq] at hv hqc hul
  have H0 := Lib.hid (h.ext hx0)
  have Hq6 := Lib.hid hq
  have Hql := Lib.hid hul
  have hq20 : q ≤ 1048576 := by omega
  unfold maxLen at hcm
  subst hv
  clear h hq hx0 hul
  by_cases h0 : q = 0
  · have hn : rdcO ss = none := rcO_bad fun hh => hh.2.2 (List.eq_nil_of_length_eq_zero (by rw [← Hql.out]; exact h0))
    have H := Lib.hid (rc_none hn)
    subst h0
    clear hn
    have q0 := Hq.out.c0
    have q1 := Hq.out.c1
    have q2 := Hq.out.c2
    have q3 := Hq.out.c3
    clear q0 q1 q2 q3
    go_enter Tryz.func17, Tryz.ntmps17
    go_wp2
    have q0 := Hq.out.c0
    have q1 := Hq.out.c1
    have q2 := Hq.out.c2
    have q3 := Hq.out.c3
    exact bodyPost_ret (v := .tuple #[.agg #[.int .i64 0, .slice none 0 0, .int .i64 0, .slice none 0 0], .bool false]) (by simp [results, Tryz.results17, q0, q1, q2, q3, go_sem]) rfl ⟨_, _, by rw [H.out.1, H.out.2.1], by rw [H.out.2.2.1]; exact Own.nil _ _, by rw [H.out.2.2.2]; exact Own.nil _ _, Apart.nil _, HX.out⟩
  · obtain ⟨s0, hs0⟩ : ∃ s, ss[0]? = some s := ⟨_, List.getElem?_eq_getElem (by rw [← Hql.out]; omega)⟩
    obtain ⟨g, c', hA, _, hgl, _⟩ := H0.out.shape (by rw [← Hq6.out]; omega)
    obtain ⟨rfl, rfl⟩ : A = some ⟨g, 0, none⟩ ∧ c = c' := by simp only [Value.slice.injEq] at hA; exact ⟨hA.1, hA.2.2⟩
    have hcell0 := H0.out.cell hs0
    have hs0z := hsz s0 (List.mem_of_getElem? hs0)
    have hhd := rc_head hs0
    have hqz : ((q : Int) == 0) = false := by rw [beq_eq_false_iff_ne]; omega
    have hqi : (0 : Int) < (q : Int) := by omega
    have Hs0 := Lib.hid hs0
    clear hA hs0
    by_cases hgood : prB s0 = true ∧ ¬ prL s0 = []
    · obtain ⟨hp, hl0⟩ := hgood
      obtain ⟨h1, h2, h3, h4, h5⟩ := pr_t hp
      have hok := pr_ok hp
      rw [← h2] at hok
      obtain ⟨n, hn⟩ : ∃ n, n = s0.size := ⟨_, rfl⟩
      obtain ⟨l, hl⟩ : ∃ l, l = prL s0 := ⟨_, rfl⟩
      have hrd1 := rd_one Hs0.out hp
      have hrc : rdcO ss = rdUp s0.size (prL s0) ss ss.length := by
        have := rcO_good (ss := ss) ⟨by rw [hhd]; exact hp, by rw [hhd]; exact hl0, fun e => h0 (by rw [Hql.out, e]; rfl)⟩
        rw [hhd] at this; exact this
      have H1 : Hid (prN s0 = (n : Int)) := by unfold Hid; rw [h1, hn]
      have H2 : Hid (prL s0 = l) := hl.symm
      have H3 : Hid (rdcN ss = if rdcB ss = true then (n : Int) else 0) := by unfold Hid rdcN; rw [hhd, hn]
      have H4 : Hid (rdcI ss = if rdcB ss = true then l else []) := by unfold Hid rdcI; rw [hhd, hl]
      rw [← hn, ← hl] at hrc hrd1
      rw [← hn] at h3 h4 hok
      rw [← hl] at hok hl0
      have Hp := Lib.hid hp
      have Hrc := Lib.hid hrc
      have Hrd1 := Lib.hid hrd1
      have Hok := Lib.hid hok
      have Hmem := Lib.hid hok.2.2
      have Hlen := Lib.hid (inc_len hok.2.1 hok.2.2)
      have hll : 1 ≤ l.length := by
        cases l with
        | nil => exact absurd rfl hl0
        | cons a t => simp
      obtain ⟨ll, hle⟩ : ∃ k, k = l.length := ⟨_, rfl⟩
      rw [← hle] at hll
      have hllz : ((ll : Int) == 0) = false := by rw [beq_eq_false_iff_ne]; omega
      have Hll := Lib.hid hle
      clear hp hl0 h1 h2 h5 hok hn hl hrd1 hrc hhd hle hqz
      by_cases hc1 : c = 1
      · subst hc1
        obtain rfl : q = 1 := by omega
        go_enter Tryz.func17, Tryz.ntmps17
        go_wp2_with (first | (go_at_call 34; refine (parseRhythm_c s0 _ hs0z).mono ?_; rintro e w3 ⟨v3, rfl, ho3, hx3⟩; (rw [H1.out, Hp.out]; rw [H2.out] at ho3; obtain ⟨A3, c3, hv3, _, _⟩ := ho3.slice; rw [← Hll.out] at hv3; subst hv3; have R4 := Lib.hid (RVar.new (T := 25) w3 (n : Int) (.slice A3 ll c3)); have hc0 := R4.out.c0; have hc1 := R4.out.c1)))
        have O3 := Lib.hid (ho3.ext (one_box w3 (.cells #[.int .i64 (n : Int), .slice A3 ll c3] 25)))
        have HX4 : Hid (Ext w (w3.alloc (.cells #[.int .i64 (n : Int), .slice A3 ll c3] 25))) := HX.out.tr (hx3.tr (one_box w3 _))
        have Q4 : Hid (CVar (w3.alloc (.cells #[.int .i64 (n : Int), .slice A3 ll c3] 25)) w.heap.size 0 (.slice none 0 0) 0 (.slice none 0 0)) := (Hq.out.ext hx3).ext (one_box w3 _)
        have H4s : Hid (Sss (w3.alloc (.cells #[.int .i64 (n : Int), .slice A3 ll c3] 25)) B (.slice (some ⟨g, 0, none⟩) 1 1) us ss) := (H0.out.ext hx3).ext (one_box w3 _)
        have E4 : Hid (Own ((w3.alloc (.cells #[.int .i64 (n : Int), .slice A3 ll c3] 25)).alloc (.cells #[.int .i64 0] 3)) (w3.heap.size + 1) (.slice (some ⟨w3.heap.size + 1, 0, none⟩) 1 1) [0]) := by
          have h5 := own_lit1 (w3.alloc (.cells #[.int .i64 (n : Int), .slice A3 ll c3] 25)) 0 (by unfold I64; omega)
          rw [World.size_alloc] at h5
          exact h5
        have hsw3 : w.heap.size < w3.heap.size := by have := hx3.size; rw [World.size_alloc] at this; omega
        clear hc0 hc1 ho3 hx3
        go_loopw [6, 34] (fun ev i wr => ∃ (j : Nat) (u : Value) (es : List Int), j ≤ 1 - 1 ∧ i = .int .i64 j ∧ ev = u ∧ Hid (rdUp n l ss (j + 1) = some es ∧ Own wr (w3.heap.size + 1) u es ∧ Ext (w3.alloc (.cells #[.int .i64 (n : Int), .slice A3 ll c3] 25)) wr)) (fun _ i _ => 1 - 1 - (intOf i).toNat)
        case atStart => exact ⟨0, _, [0], Nat.zero_le _, rfl, rfl, Hrd1.out, E4.out, one_box _ _⟩
        case round =>
          obtain ⟨j, u, es, hj, rfl, rfl, hr⟩ := hrel
          have hjz : ¬ (j : Int) < 0 := by omega
          have hje : 1 = j + 1 := by omega
          have Hje := Lib.hid hje
          clear hje
          obtain ⟨Au, nu, cu, rfl⟩ := hr.out.2.1.form
          have hrce : rdcO ss = some es := by rw [Hrc.out, ← Hql.out, Hje.out]; exact hr.out.1
          have H := Lib.hid (rc_some hrce)
          have Rr := Lib.hid (R4.out.ext hr.out.2.2)
          have Qr := Lib.hid (Q4.out.ext hr.out.2.2)
          have O3r := Lib.hid (O3.out.ext hr.out.2.2)
          have Er := Lib.hid hr.out.2.1
          have hc0 := Rr.out.c0
          have hc1 := Rr.out.c1
          have d0 := Qr.out.c0; have p0 := Qr.out.f 0; have d1 := (Qr.out.set0 (k := (n : Int))).c1; have p1 := (Qr.out.set0 (k := (n : Int))).f 1; have d2 := ((Qr.out.set0 (k := (n : Int))).set1 (x := (.slice A3 ll c3))).c2; have p2 := ((Qr.out.set0 (k := (n : Int))).set1 (x := (.slice A3 ll c3))).f 2; have d3 := (((Qr.out.set0 (k := (n : Int))).set1 (x := (.slice A3 ll c3))).set2 (k := (n : Int))).c3; have p3 := (((Qr.out.set0 (k := (n : Int))).set1 (x := (.slice A3 ll c3))).set2 (k := (n : Int))).f 3
          have Hap : Hid (Apart (.slice A3 ll c3) (.slice Au nu cu)) := apart_low (w := wr) Er.out fun k hk => by have := (O3.out.lt k hk).2; simpa using this
          have Fin := Lib.hid (retc_fin (n := (n : Int)) (m := (n : Int)) (B := w.heap.size + 1) Qr.out (O3r.out.base (by simp)) (Er.out.base (by omega)) (by omega) (HX4.out.tr hr.out.2.2) (Nat.le_refl _))
          clear hrce
          go_wp2
          have q0 := Fin.out.1.c0
          have q1 := Fin.out.1.c1
          have q2 := Fin.out.1.c2
          have q3 := Fin.out.1.c3
          exact bodyPost_ret (v := .tuple #[.agg #[.int .i64 n, .slice A3 ll c3, .int .i64 n, .slice Au nu cu], .bool true]) (by simp [results, Tryz.results17, q0, q1, q2, q3, go_sem]) rfl ⟨_, _, by rw [H3.out, H.out.1]; rfl, by rw [H4.out, H.out.1]; exact Fin.out.2.1.base (by omega), by rw [H.out.2.2.2]; exact Fin.out.2.2.1.base (by omega), Hap.out, Fin.out.2.2.2⟩
      · have hci : 1 ≤ c := by omega
        go_enter Tryz.func17, Tryz.ntmps17
        go_wp2_with (first | (go_at_call 34; refine (parseRhythm_c s0 _ hs0z).mono ?_; rintro e w3 ⟨v3, rfl, ho3, hx3⟩; (rw [H1.out, Hp.out]; rw [H2.out] at ho3; obtain ⟨A3, c3, hv3, _, _⟩ := ho3.slice; rw [← Hll.out] at hv3; subst hv3; have R4 := Lib.hid (RVar.new (T := 25) w3 (n : Int) (.slice A3 ll c3)); have hc0 := R4.out.c0; have hc1 := R4.out.c1)))
        have O3 := Lib.hid (ho3.ext (one_box w3 (.cells #[.int .i64 (n : Int), .slice A3 ll c3] 25)))
        have HX4 : Hid (Ext w (w3.alloc (.cells #[.int .i64 (n : Int), .slice A3 ll c3] 25))) := HX.out.tr (hx3.tr (one_box w3 _))
        have Q4 : Hid (CVar (w3.alloc (.cells #[.int .i64 (n : Int), .slice A3 ll c3] 25)) w.heap.size 0 (.slice none 0 0) 0 (.slice none 0 0)) := (Hq.out.ext hx3).ext (one_box w3 _)
        have H4s : Hid (Sss (w3.alloc (.cells #[.int .i64 (n : Int), .slice A3 ll c3] 25)) B (.slice (some ⟨g, 0, none⟩) q c) us ss) := (H0.out.ext hx3).ext (one_box w3 _)
        have E4 : Hid (Own ((w3.alloc (.cells #[.int .i64 (n : Int), .slice A3 ll c3] 25)).alloc (.cells #[.int .i64 0] 3)) (w3.heap.size + 1) (.slice (some ⟨w3.heap.size + 1, 0, none⟩) 1 1) [0]) := by
          have h5 := own_lit1 (w3.alloc (.cells #[.int .i64 (n : Int), .slice A3 ll c3] 25)) 0 (by unfold I64; omega)
          rw [World.size_alloc] at h5
          exact h5
        have hsw3 : w.heap.size < w3.heap.size := by have := hx3.size; rw [World.size_alloc] at this; omega
        clear hc0 hc1 ho3 hx3
        go_loopw [6, 34] (fun ev i wr => ∃ (j : Nat) (u : Value) (es : List Int), j ≤ q - 1 ∧ i = .int .i64 j ∧ ev = u ∧ Hid (rdUp n l ss (j + 1) = some es ∧ Own wr (w3.heap.size + 1) u es ∧ Ext (w3.alloc (.cells #[.int .i64 (n : Int), .slice A3 ll c3] 25)) wr)) (fun _ i _ => q - 1 - (intOf i).toNat)
        case atStart => exact ⟨0, _, [0], Nat.zero_le _, rfl, rfl, Hrd1.out, E4.out, one_box _ _⟩
        case round =>
          obtain ⟨j, u, es, hj, rfl, rfl, hr⟩ := hrel
          by_cases hjq : j < q - 1
          · obtain ⟨s, hs⟩ : ∃ s, ss[j + 1]? = some s := ⟨_, List.getElem?_eq_getElem (by rw [← Hql.out]; omega)⟩
            have hcs0 := (H4s.out.ext hr.out.2.2).cell hs
            have hcs : wr.cell? ⟨g, 1 + j, none⟩ = some (.string s) := by rw [Nat.add_comm]; exact hcs0
            obtain ⟨e0, he0, hen, hnx, hel⟩ := rd_at hr.out.1
            obtain ⟨gu, cu, hv, _, _, _, hcu, _⟩ := hr.out.2.1.shape (by omega)
            rw [hel] at hv
            subst hv
            have hce := hcu j _ he0
            have hji : (j : Int) < (q : Int) - 1 := by omega
            have hjl : ((j : Int) + 1) - 1 = (j : Int) := by omega
            have Hs := Lib.hid hs
            have Hrd := Lib.hid hr.out.1
            have Er := Lib.hid hr.out.2.1
            have Xr := Lib.hid hr.out.2.2
            have Hnx := Lib.hid hnx
            have Rr := Lib.hid (R4.out.ext hr.out.2.2)
            have O3r := Lib.hid (O3.out.ints.ext hr.out.2.2)
            obtain ⟨o0, ho0⟩ : ∃ o, o = e0 + 1 := ⟨_, rfl⟩
            have hoi : (e0 : Int) + 1 = (o0 : Int) := by omega
            have hon : o0 ≤ n := by omega
            have Hnp : Hid (nextP es = o0) := by rw [Hnx.out, ho0]; rfl
            have Hel := Lib.hid hel
            clear hs he0 hcu hnx hr ho0 hel hcs0
            go_wp2
            go_loopw [9] (fun i wr2 => ∃ o : Nat, o ≤ n ∧ i = .int .i64 o ∧ Hid (nxt n l s o = nxt n l s o0 ∧ Ext wr wr2)) (fun i _ => n - (intOf i).toNat)
            case atStart => exact ⟨o0, hon, rfl, rfl, Below.refl _ _⟩
            case round =>
              obtain ⟨o, ho, rfl, hi⟩ := hrel
              have Ri := Lib.hid (Rr.out.ext hi.out.2)
              have Oi := Lib.hid (O3r.out.ext hi.out.2)
              have hc0 := Ri.out.c0
              have hc1 := Ri.out.c1
              by_cases hon2 : o < n
              · have honi : (o : Int) < (n : Int) := by omega
                obtain ⟨T, hT⟩ : ∃ T, T = rtT n l o := ⟨_, rfl⟩
                have HT : Hid (strOfNums (txU n (rotL n l (o : Int))) = T) := hT.symm
                have Hm5 : Hid (∀ x ∈ rotL n l (o : Int), 0 ≤ x ∧ x < n) := fun x hx => (mem_rhL.1 hx).1
                have Hl5 : Hid ((rotL n l (o : Int)).length ≤ n) := rhL_len n _
                by_cases heq : T = s
                · have hb := bsq heq
                  have hoz : ((o : Int) == (n : Int)) = false := by rw [beq_eq_false_iff_ne]; omega
                  have Hn : Hid (rdUp n l ss (j + 1 + 1) = some (es ++ [(o : Int)])) := by
                    have h1 : nxt n l s (nextP es) = o := by rw [Hnp.out, ← hi.out.1]; exact nxt_hit hon2 (by rw [← hT]; exact heq)
                    have h2 := rd_some Hrd.out Hs.out (by rw [h1]; omega)
                    rw [h1] at h2
                    exact h2
                  clear heq hT
                  go_wp2_with (first | (go_at_call 23; refine (rotated_c n l (o : Int) _ _ Oi.out ⟨h3, h4⟩ Hmem.out Hlen.out (by omega)).mono ?_; rintro e w5 ⟨v5, rfl, how5, hxw5⟩; (obtain ⟨A5, n5, c5, rfl⟩ := how5.form)) | (go_at_call 33; refine (text_c n (rotL n l (o : Int)) _ _ how5.ints ⟨h3, h4⟩ Hm5.out Hl5.out).mono ?_; rintro e w6 ⟨rfl, hx6⟩; (rw [HT.out]; have HXi := Lib.hid (hi.out.2.tr (hxw5.tr hx6)); have Rj := Lib.hid (Rr.out.ext HXi.out); have hd0 := Rj.out.c0; have Ej := Lib.hid (Er.out.ext HXi.out); have hzj : w3.heap.size + 1 ≤ w6.heap.size := (by (have h1 := HXi.out.size; have h2 := Xr.out.size; simp only [World.size_alloc] at h2; omega)))) | (at_builtin; refine wp_append1 rfl (.tmp 64) (.tmp 66) rfl rfl rfl Ej.out (by unfold I64; omega) (by rw [Hel.out]; omega) hzj ?_; intro v' w' ho' hg hb' hat))
                  go_roundw
                  case rel => exact ⟨j + 1, _, _, by omega, by go_num, rfl, Hn.out, ho', (Xr.out.tr HXi.out).trans (hb'.mono (by simp))⟩
                  case measure => simp [intOf]; omega
                · have hb := bsn heq
                  have Hn : Hid (nxt n l s (o + 1) = nxt n l s o0) := by unfold Hid; rw [← hi.out.1, nxt_go hon2 (by rw [← hT]; exact heq)]
                  clear heq hT
                  go_wp2_with (first | (go_at_call 23; refine (rotated_c n l (o : Int) _ _ Oi.out ⟨h3, h4⟩ Hmem.out Hlen.out (by omega)).mono ?_; rintro e w5 ⟨v5, rfl, how5, hxw5⟩; (obtain ⟨A5, n5, c5, rfl⟩ := how5.form)) | (go_at_call 33; refine (text_c n (rotL n l (o : Int)) _ _ how5.ints ⟨h3, h4⟩ Hm5.out Hl5.out).mono ?_; rintro e w6 ⟨rfl, hx6⟩; (rw [HT.out])))
                  go_roundw
                  case rel => exact ⟨o + 1, by omega, by go_num, Hn.out, hi.out.2.tr (hxw5.tr hx6)⟩
                  case measure => simp [intOf]; omega
              · have hoe : o = n := by omega
                have honi : ¬ (o : Int) < (n : Int) := by omega
                have hoz : ((o : Int) == (n : Int)) = true := by rw [hoe]; simp
                have FN : rdcO ss = none := by
                  have h1 : nxt n l s (nextP es) = n := by rw [Hnp.out, ← hi.out.1, hoe]; exact nxt_end
                  rw [Hrc.out]
                  exact rd_none (rd_fail Hrd.out Hs.out h1) (by have := (List.getElem?_eq_some_iff.1 Hs.out).1; omega)
                have HF := Lib.hid (rc_none FN)
                have Qr := Lib.hid (Q4.out.ext (Xr.out.tr hi.out.2))
                have d0 := Qr.out.c0; have p0 := Qr.out.f 0; have d1 := (Qr.out.set0 (k := 0)).c1; have p1 := (Qr.out.set0 (k := 0)).f 1; have d2 := ((Qr.out.set0 (k := 0)).set1 (x := (.slice none 0 0))).c2; have p2 := ((Qr.out.set0 (k := 0)).set1 (x := (.slice none 0 0))).f 2; have d3 := (((Qr.out.set0 (k := 0)).set1 (x := (.slice none 0 0))).set2 (k := 0)).c3; have p3 := (((Qr.out.set0 (k := 0)).set1 (x := (.slice none 0 0))).set2 (k := 0)).f 3
                have Fin := Lib.hid (retc_fin (n := 0) (m := 0) (B := w.heap.size + 1) (l := []) (r := []) Qr.out (Own.nil _ _) (Own.nil _ _) (by omega) (HX4.out.tr (Xr.out.tr hi.out.2)) (Nat.le_refl _))
                clear hoe FN
                go_wp2
                have q0 := Fin.out.1.c0
                have q1 := Fin.out.1.c1
                have q2 := Fin.out.1.c2
                have q3 := Fin.out.1.c3
                exact bodyPost_ret (v := .tuple #[.agg #[.int .i64 0, .slice none 0 0, .int .i64 0, .slice none 0 0], .bool false]) (by simp [results, Tryz.results17, q0, q1, q2, q3, go_sem]) rfl ⟨_, _, by rw [HF.out.1, HF.out.2.1], by rw [HF.out.2.2.1]; exact Own.nil _ _, by rw [HF.out.2.2.2]; exact Own.nil _ _, Apart.nil _, Fin.out.2.2.2⟩
          · have hjz : ¬ (j : Int) < (q : Int) - 1 := by omega
            have hje : q = j + 1 := by omega
            have Hje := Lib.hid hje
            clear hje
            obtain ⟨Au, nu, cu, rfl⟩ := hr.out.2.1.form
            have hrce : rdcO ss = some es := by rw [Hrc.out, ← Hql.out, Hje.out]; exact hr.out.1
            have H := Lib.hid (rc_some hrce)
            have Rr := Lib.hid (R4.out.ext hr.out.2.2)
            have Qr := Lib.hid (Q4.out.ext hr.out.2.2)
            have O3r := Lib.hid (O3.out.ext hr.out.2.2)
            have Er := Lib.hid hr.out.2.1
            have hc0 := Rr.out.c0
            have hc1 := Rr.out.c1
            have d0 := Qr.out.c0; have p0 := Qr.out.f 0; have d1 := (Qr.out.set0 (k := (n : Int))).c1; have p1 := (Qr.out.set0 (k := (n : Int))).f 1; have d2 := ((Qr.out.set0 (k := (n : Int))).set1 (x := (.slice A3 ll c3))).c2; have p2 := ((Qr.out.set0 (k := (n : Int))).set1 (x := (.slice A3 ll c3))).f 2; have d3 := (((Qr.out.set0 (k := (n : Int))).set1 (x := (.slice A3 ll c3))).set2 (k := (n : Int))).c3; have p3 := (((Qr.out.set0 (k := (n : Int))).set1 (x := (.slice A3 ll c3))).set2 (k := (n : Int))).f 3
            have Hap : Hid (Apart (.slice A3 ll c3) (.slice Au nu cu)) := apart_low (w := wr) Er.out fun k hk => by have := (O3.out.lt k hk).2; simpa using this
            have Fin := Lib.hid (retc_fin (n := (n : Int)) (m := (n : Int)) (B := w.heap.size + 1) Qr.out (O3r.out.base (by simp)) (Er.out.base (by omega)) (by omega) (HX4.out.tr hr.out.2.2) (Nat.le_refl _))
            clear hrce
            go_wp2
            have q0 := Fin.out.1.c0
            have q1 := Fin.out.1.c1
            have q2 := Fin.out.1.c2
            have q3 := Fin.out.1.c3
            exact bodyPost_ret (v := .tuple #[.agg #[.int .i64 n, .slice A3 ll c3, .int .i64 n, .slice Au nu cu], .bool true]) (by simp [results, Tryz.results17, q0, q1, q2, q3, go_sem]) rfl ⟨_, _, by rw [H3.out, H.out.1]; rfl, by rw [H4.out, H.out.1]; exact Fin.out.2.1.base (by omega), by rw [H.out.2.2.2]; exact Fin.out.2.2.1.base (by omega), Hap.out, Fin.out.2.2.2⟩
    · have hn : rdcO ss = none := rcO_bad fun hh => hgood ⟨by rw [← hhd]; exact hh.1, by rw [← hhd]; exact hh.2.1⟩
      have HF := Lib.hid (rc_none hn)
      obtain ⟨z, hz⟩ : ∃ z, z = prN s0 := ⟨_, rfl⟩
      obtain ⟨lz, hlz⟩ : ∃ l, l = prL s0 := ⟨_, rfl⟩
      obtain ⟨bz, hbz⟩ : ∃ b, b = prB s0 := ⟨_, rfl⟩
      have H1 : Hid (prN s0 = z) := hz.symm
      have H2 : Hid (prL s0 = lz) := hlz.symm
      have H3 : Hid (prB s0 = bz) := hbz.symm
      have hcase : bz = false ∨ (bz = true ∧ lz = []) := by
        cases bz with
        | false => exact .inl rfl
        | true =>
          by_cases he : lz = []
          · exact .inr ⟨rfl, he⟩
          · exact absurd ⟨hbz.symm, by rw [← hlz]; exact he⟩ hgood
      clear hn hgood hhd hz hlz hbz
      rcases hcase with rfl | ⟨rfl, rfl⟩
      · go_enter Tryz.func17, Tryz.ntmps17
        go_wp2_with (first | (go_at_call 34; refine (parseRhythm_c s0 _ hs0z).mono ?_; rintro e w3 ⟨v3, rfl, ho3, hx3⟩; (rw [H1.out, H3.out]; rw [H2.out] at ho3; obtain ⟨A3, c3, hv3, _, _⟩ := ho3.slice; obtain ⟨m3, hm3⟩ : ∃ m, m = lz.length := ⟨_, rfl⟩; rw [← hm3] at hv3; clear hm3; subst hv3; have R4 := Lib.hid (RVar.new (T := 25) w3 z (.slice A3 m3 c3)); have hc0 := R4.out.c0; have hc1 := R4.out.c1; have Qr := Lib.hid ((Hq.out.ext hx3).ext (one_box w3 (.cells #[.int .i64 z, .slice A3 m3 c3] 25))); have d0 := Qr.out.c0; have p0 := Qr.out.f 0; have d1 := (Qr.out.set0 (k := 0)).c1; have p1 := (Qr.out.set0 (k := 0)).f 1; have d2 := ((Qr.out.set0 (k := 0)).set1 (x := (.slice none 0 0))).c2; have p2 := ((Qr.out.set0 (k := 0)).set1 (x := (.slice none 0 0))).f 2; have d3 := (((Qr.out.set0 (k := 0)).set1 (x := (.slice none 0 0))).set2 (k := 0)).c3; have p3 := (((Qr.out.set0 (k := 0)).set1 (x := (.slice none 0 0))).set2 (k := 0)).f 3; have Fin := Lib.hid (retc_fin (n := 0) (m := 0) (B := w.heap.size + 1) (l := []) (r := []) Qr.out (Own.nil _ _) (Own.nil _ _) (by omega) (HX.out.tr (hx3.tr (one_box w3 _))) (Nat.le_refl _)))))
        have q0 := Fin.out.1.c0
        have q1 := Fin.out.1.c1
        have q2 := Fin.out.1.c2
        have q3 := Fin.out.1.c3
        exact bodyPost_ret (v := .tuple #[.agg #[.int .i64 0, .slice none 0 0, .int .i64 0, .slice none 0 0], .bool false]) (by simp [results, Tryz.results17, q0, q1, q2, q3, go_sem]) rfl ⟨_, _, by rw [HF.out.1, HF.out.2.1], by rw [HF.out.2.2.1]; exact Own.nil _ _, by rw [HF.out.2.2.2]; exact Own.nil _ _, Apart.nil _, Fin.out.2.2.2⟩
      · go_enter Tryz.func17, Tryz.ntmps17
        go_wp2_with (first | (go_at_call 34; refine (parseRhythm_c s0 _ hs0z).mono ?_; rintro e w3 ⟨v3, rfl, ho3, hx3⟩; (rw [H1.out, H3.out]; rw [H2.out] at ho3; obtain ⟨A3, c3, hv3, _, _⟩ := ho3.slice; rw [List.length_nil] at hv3; subst hv3; have R4 := Lib.hid (RVar.new (T := 25) w3 z (.slice A3 0 c3)); have hc0 := R4.out.c0; have hc1 := R4.out.c1; have Qr := Lib.hid ((Hq.out.ext hx3).ext (one_box w3 (.cells #[.int .i64 z, .slice A3 0 c3] 25))); have d0 := Qr.out.c0; have p0 := Qr.out.f 0; have d1 := (Qr.out.set0 (k := 0)).c1; have p1 := (Qr.out.set0 (k := 0)).f 1; have d2 := ((Qr.out.set0 (k := 0)).set1 (x := (.slice none 0 0))).c2; have p2 := ((Qr.out.set0 (k := 0)).set1 (x := (.slice none 0 0))).f 2; have d3 := (((Qr.out.set0 (k := 0)).set1 (x := (.slice none 0 0))).set2 (k := 0)).c3; have p3 := (((Qr.out.set0 (k := 0)).set1 (x := (.slice none 0 0))).set2 (k := 0)).f 3; have Fin := Lib.hid (retc_fin (n := 0) (m := 0) (B := w.heap.size + 1) (l := []) (r := []) Qr.out (Own.nil _ _) (Own.nil _ _) (by omega) (HX.out.tr (hx3.tr (one_box w3 _))) (Nat.le_refl _)))))
        have q0 := Fin.out.1.c0
        have q1 := Fin.out.1.c1
        have q2 := Fin.out.1.c2
        have q3 := Fin.out.1.c3
        exact bodyPost_ret (v := .tuple #[.agg #[.int .i64 0, .slice none 0 0, .int .i64 0, .slice none 0 0], .bool false]) (by simp [results, Tryz.results17, q0, q1, q2, q3, go_sem]) rfl ⟨_, _, by rw [HF.out.1, HF.out.2.1], by rw [HF.out.2.2.1]; exact Own.nil _ _, by rw [HF.out.2.2.2]; exact Own.nil _ _, Apart.nil _, Fin.out.2.2.2⟩
end Go.Proofs.YtjecdmlojgmbeaaGreatDoor
