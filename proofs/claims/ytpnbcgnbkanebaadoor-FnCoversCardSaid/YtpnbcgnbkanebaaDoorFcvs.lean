/- Contract: the closure that collects the covers. -/
import Derived.Test.YtpnbcgnbkanebaaDoorCvw
import Derived.Test.YtpnbcgnbkanebaaDoorFvt
import Derived.Test.YtpnbcgnbkanebaaDoorFcl
import Derived.Deep.RegionLaw
namespace Go.Proofs.YtpnbcgnbkanebaaDoor
open Go.RowKit
theorem not_u64 {T X : Nat} (hT : T < 281474976710656) (hX : X = 18446744073709551615 - T) : IntKind.u64.wrap (bits .xor .i64 (-1) (T : Int)) = (X : Int) := by
  have h : bits .xor .i64 (-1) (T : Int) = -(T : Int) - 1 := by
    show IntKind.i64.wrap ((BitVec.ofInt 64 (-1) ^^^ BitVec.ofInt 64 (T : Int)).toNat : Int) = _
    have e : (BitVec.ofInt 64 (-1) ^^^ BitVec.ofInt 64 (T : Int)).toNat = 18446744073709551615 - T := by
      have e1 : BitVec.ofInt 64 (-1) = BitVec.allOnes 64 := by decide
      rw [e1, BitVec.allOnes_xor, BitVec.toNat_not, ofInt_i64 T (by omega)]
    rw [e, IntKind.wrap_i64]
    omega
  rw [h, IntKind.wrap_u64]
  omega
/-- The captured variables, as the closure finds them. -/
structure CEnv (w : World) (n kd : Nat) (p : List Int) (pv : Value) (bn bo bk bp be : Nat) : Prop where
  cn : w.cell? ⟨bn, 0, none⟩ = some (.int .i64 n)
  ck : w.cell? ⟨bk, 0, none⟩ = some (.int .i64 kd)
  cp : w.cell? ⟨bp, 0, none⟩ = some pv
  ce : w.cell? ⟨be, 0, none⟩ = some (.func (.func 40) #[] #[.pointer (some ⟨bn, 0, none⟩), .pointer (some ⟨bo, 0, none⟩), .pointer (some ⟨bk, 0, none⟩), .pointer (some ⟨bp, 0, none⟩), .pointer (some ⟨be, 0, none⟩)])
  ip : Ints w pv p
  tab : TabAt 1 Lib.deBruijn64tab w
  nn : bn ≠ bo
  nk : bk ≠ bo
  np : bp ≠ bo
  ne : be ≠ bo
  nt : 1 ≠ bo
  nv : ∀ A m c, pv = .slice (some A) m c → A.block ≠ bo
theorem CEnv.kept {w w' : World} {n kd : Nat} {p : List Int} {pv : Value} {bn bo bk bp be : Nat} (h : CEnv w n kd p pv bn bo bk bp be) (hg : w.grownBy w' (some bo)) : CEnv w' n kd p pv bn bo bk bp be := by
  have far : ∀ (a : Addr) (u : Value), w.cell? a = some u → a.block ≠ bo → w'.cell? a = some u := fun a u hc hne => by
    rw [hg.cell_far a (World.block_lt_of_cell? w a hc) (fun e => hne (by cases e; rfl))]
    exact hc
  refine ⟨far _ _ h.cn h.nn, far _ _ h.ck h.nk, far _ _ h.cp h.np, far _ _ h.ce h.ne, ?_, fun j hj => far _ _ (h.tab j hj) h.nt, h.nn, h.nk, h.np, h.ne, h.nt, h.nv⟩
  obtain ⟨A, c, rfl, h1, h2, h3⟩ := h.ip
  refine ⟨A, c, rfl, h1, h2, fun k x hx => ?_⟩
  obtain ⟨hi, ad, rfl, hc⟩ := h3 k x hx
  exact ⟨hi, ad, rfl, far _ _ hc (by rw [block_of_add]; exact h.nv _ _ _ rfl)⟩
theorem CEnv.ext {w w' : World} {n kd : Nat} {p : List Int} {pv : Value} {bn bo bk bp be : Nat} (h : CEnv w n kd p pv bn bo bk bp be) (hx : Ext w w') : CEnv w' n kd p pv bn bo bk bp be := h.kept (grownBy_of_ext hx _)
theorem ext_ofDC {w w' : World} (h : Ext w.drew w') : Ext w w' := ⟨h.os, h.tape, h.output, h.size, h.block⟩
/-- the covers that begin with one kind of element -/
def ptC (A B n f t s : Nat) (l : List Int) (X k : Nat) : List (List Int) := if s &&& X = 0 ∧ X / 2 ^ (n - t) = 0 then (cv A B n f (t + (D (s + X)).2) (D (s + X)).1).map fun y => l ++ ((2 * t + k : Nat) : Int) :: y else []
def ptL (A B n f t s : Nat) (l : List Int) (j : Nat) : List (List Int) := if j = 0 then [] else if j = 1 then ptC A B n f t s l A 0 else ptC A B n f t s l A 0 ++ ptC A B n f t s l B 1
theorem ptL_step (A B n f t s : Nat) (l : List Int) (j : Nat) (hj : j = 0 ∨ j = 1) : ptL A B n f t s l (j + 1) = ptL A B n f t s l j ++ ptC A B n f t s l (if j = 1 then B else A) j := by
  rcases hj with rfl | rfl <;> simp [ptL]
theorem ptC_len (A B n f t s : Nat) (l : List Int) (X k : Nat) : (ptC A B n f t s l X k).length ≤ 2 ^ f := by
  unfold ptC
  split
  · rw [List.length_map]; exact cv_len _ _ _ _ _ _
  · exact Nat.zero_le _
theorem ptL_len (A B n f t s : Nat) (l : List Int) (j : Nat) (hj : j = 0 ∨ j = 1) : (ptL A B n f t s l j).length ≤ 2 ^ f := by
  rcases hj with rfl | rfl
  · exact Nat.zero_le _
  · exact ptC_len _ _ _ _ _ _ _ _ _
theorem ptL_all (A B n f t s : Nat) (l : List Int) (kd : Nat) (hkd : kd = if B = A then 1 else 2) (h : ¬ t = n) : (cv A B n (f + 1) t s).map (fun x => l ++ x) = ptL A B n f t s l kd := by
  rw [cv, if_neg h, List.map_append]
  by_cases e : B = A
  · subst e
    rw [if_pos rfl] at hkd
    subst hkd
    simp only [ne_eq, not_true_eq_false, false_and, if_false, List.map_nil, List.append_nil]
    unfold ptL ptC
    rw [if_neg (show ¬ (1 : Nat) = 0 by decide), if_pos (show (1 : Nat) = 1 from rfl)]
    split <;> simp [Function.comp_def]
  · rw [if_neg e] at hkd
    subst hkd
    unfold ptL
    rw [if_neg (show ¬ (2 : Nat) = 0 by decide), if_neg (show ¬ (2 : Nat) = 1 by decide)]
    unfold ptC
    simp only [ne_eq, e, not_false_eq_true, true_and]
    split <;> split <;> simp [Function.comp_def]
set_option maxRecDepth 100000 in
set_option maxHeartbeats 4000000 in
theorem coverF_c (n kd : Nat) (p : List Int) (pv : Value) (bn bo bk bp be : Nat) (w0 : World) (hp : PatOk p) (hn : n ≤ 24) (hkd : kd = if maskN (mirL p) = maskN p then 1 else 2) (hbo : bo < w0.heap.size) (henv0 : CEnv w0 n kd p pv bn bo bk bp be) :
    ∀ (f t s : Nat) (v o : Value) (l : List Int) (us : List Value) (ls : List (List Int)) (w : World), t ≤ n → s < 2 ^ (n - t) → s % 2 = 0 → n + 1 ≤ f + t → f ≤ 25 → l.length ≤ t → us.length + 2 ^ f ≤ 67108864 →
      CSt w0 w bo o us ls → Own w w0.heap.size v l → Apart v o → (∀ u ∈ us, Apart u v) →
      Calls Tryd.prog 40 #[v, .int .i64 (tk t s : Nat), .pointer (some ⟨bn, 0, none⟩), .pointer (some ⟨bo, 0, none⟩), .pointer (some ⟨bk, 0, none⟩), .pointer (some ⟨bp, 0, none⟩), .pointer (some ⟨be, 0, none⟩)] w
        fun e w' => (∃ r, e = .returned r) ∧ CPost w0 w bo v l o us ls ((cv (maskN p) (maskN (mirL p)) n f t s).map fun x => l ++ x) w' := by
  have Henv0 := Lib.hid henv0
  have Hkd := Lib.hid hkd
  clear henv0 hkd
  intro f
  induction f with
  | zero => intro t s v o l us ls w ht hs hse hf; omega
  | succ f ih =>
    intro t s v o l us ls w ht hs hse hf hf25 hll hul hst hv hvo huv
    have henv := Henv0.out.kept hst.gr
    have hs24 : s < 16777216 := Nat.lt_of_lt_of_le hs (Nat.pow_le_pow_right (by decide) (show n - t ≤ 24 by omega))
    obtain ⟨hT, hctz⟩ := tk_first (t := t) (by omega) hs24 hse
    have hcn := henv.cn
    obtain ⟨A, c, hve, _, _⟩ := hv.slice
    obtain ⟨q, hq⟩ : ∃ q, q = l.length := ⟨_, rfl⟩
    rw [← hq] at hve
    subst hve
    obtain ⟨T, hTe⟩ : ∃ T, T = tk t s := ⟨_, rfl⟩
    obtain ⟨X, hX⟩ : ∃ X, X = 18446744073709551615 - T := ⟨_, rfl⟩
    rw [← hTe] at hT hctz ⊢
    rw [← hX] at hctz
    have hXl : X < 18446744073709551616 ∧ X ≠ 0 := by omega
    have hXw := not_u64 hT hX
    have Henv := Lib.hid henv
    have Hst := Lib.hid hst
    have Hv := Lib.hid hv
    have Htk := Lib.hid hTe
    have Hq := Lib.hid hq
    have Hctz := Lib.hid hctz
    have husl : us.length ≤ 67108864 := Nat.le_trans (Nat.le_add_right _ _) hul
    have Hul := Lib.hid hul
    clear hTe hX henv hst hv hq hctz hul
    by_cases htn : t = n
    · have htb : ((t : Int) == (n : Int)) = true := by rw [htn]; simp
      have hob := Hst.out.blk
      have hco : w.cell? ⟨bo, 0, none⟩ = some o := hob.cell 0
      go_enter Tryd.func40, Tryd.ntmps40
      go_wp2_with (first | (go_at_call 41; refine (tz_c X hXl.1 hXl.2 _ Henv.out.tab).mono ?_; rintro e w2 ⟨rfl, rfl⟩; rw [Hctz.out]))
      have Hend : Hid (((cv (maskN p) (maskN (mirL p)) n (f + 1) t s).map fun x => l ++ x) = [l]) := by unfold Hid; rw [cv, if_pos htn]; simp
      first
        | (go_region_law (first
            | (go_simp; go_at_call 42; refine (slCloneV_c l _ _ (Ints.drew Hv.out.ints) (by have := Hq.out; omega)).mono ?_; rintro e w3 ⟨v3, rfl, ho3, hx3'⟩; have hx3 := ext_ofDC hx3'; clear hx3'; have hco3 : w3.cell? ⟨bo, 0, none⟩ = some o := (hob.ext hx3).cell 0; obtain ⟨A3, c3, hv3, _, _⟩ := ho3.slice; subst hv3; have hco4 : (w3.alloc (.cells #[.slice A3 l.length c3] 22)).cell? ⟨bo, 0, none⟩ = some o := (hob.ext (hx3.tr (one_boxC w3 _))).cell 0)
            | (refine step_appendC rfl rfl (.tmp 22) (.tmp 25) rfl rfl rfl Hst.out.rows hx3 ho3 (by omega) Hst.out.gr.size ?_; intro o' w4 hl4 hg4 hat4; obtain ⟨A4, c4, rfl, _, _⟩ := hl4.form; have Fin := Lib.hid (leaf_fin Hst.out Hv.out hvo hbo hx3 ho3 hl4 hg4 hat4); have hf4 := Fin.out.1; obtain ⟨u4, hc4⟩ := Fin.out.2.1)))
        | fail
      all_goals
        go_wp2
        go_returns
        exact ⟨⟨_, rfl⟩, by have hF := Fin.out.2.2; rw [List.length_append] at hF; rw [Hend.out]; exact hF⟩
    · have htb : ((t : Int) == (n : Int)) = false := by rw [beq_eq_false_iff_ne]; omega
      have htn2 : t < n := by omega
      have hck := Henv.out.ck
      have Hall : Hid (((cv (maskN p) (maskN (mirL p)) n (f + 1) t s).map fun x => l ++ x) = ptL (maskN p) (maskN (mirL p)) n f t s l kd) := ptL_all _ _ _ _ _ _ _ _ Hkd.out htn
      have hkd2 : kd ≤ 2 := by rw [Hkd.out]; split <;> omega
      go_enter Tryd.func40, Tryd.ntmps40
      go_wp2_with (first | (go_at_call 41; refine (tz_c X hXl.1 hXl.2 _ Henv.out.tab).mono ?_; rintro e w2 ⟨rfl, rfl⟩; rw [Hctz.out]))
      clear hcn hck hXw htb
      go_loopw [28] (fun i wr => ∃ j : Nat, j ≤ kd ∧ i = .int .i64 j ∧ Hid (CPost w0 w bo (.slice A q c) l o us ls (ptL (maskN p) (maskN (mirL p)) n f t s l j) wr)) (fun i _ => kd - (intOf i).toNat)
      case atStart => exact ⟨0, Nat.zero_le _, rfl, o, [], by simpa [ptL] using Hst.out, Hv.out, FrC.refl _ _ _ _, fun k hk => .inl hk, fun u hu => by simp at hu⟩
      case round =>
        obtain ⟨j, hj, rfl, hr⟩ := hrel
        by_cases hjk : j < kd
        · obtain ⟨o1, vs1, hst1, hv1, hfr1, hat1, hvs1⟩ := hr.out
          have hj01 : j = 0 ∨ j = 1 := by omega
          have hjki : (j : Int) < (kd : Int) := by omega
          obtain ⟨cd, hcd⟩ : ∃ cd, cd = 2 * t + j := ⟨_, rfl⟩
          have hcode : 2 * (t : Int) + (j : Int) = (cd : Int) := by omega
          have hcdl : cd ≤ 50 := by omega
          have HLB : Hid (∀ w : World, Ints w pv p → Calls Tryd.prog 32 #[pv, .int .i64 (cd : Int)] w (RL (lbL p t j) w)) := fun w h => by
            rw [hcd]
            exact laidBy_add p t j hj01 pv w h hp (by omega)
          have Hcd := Lib.hid hcd
          clear hcd
          have hE := Henv0.out.kept hst1.gr
          have hcp := hE.cp
          have HE := Lib.hid hE
          have Hst1 := Lib.hid hst1
          have Hv1 := Lib.hid hv1
          obtain ⟨qq, hqq⟩ : ∃ qq, qq = (if j = 1 then mirL p else p) := ⟨_, rfl⟩
          have hqok : PatOk qq := by rw [hqq]; split; exact mirL_ok hp; exact hp
          have Hlb : Hid (lbL p t j = qq.map fun x => (t : Int) + x) := by unfold Hid lbL; rw [hqq]
          have Hmq : Hid (maskN qq = if j = 1 then maskN (mirL p) else maskN p) := by unfold Hid; rw [hqq]; split <;> rfl
          have hql := hqok.len
          obtain ⟨m, hm⟩ : ∃ m, m = qq.length := ⟨_, rfl⟩
          rw [← hm] at hql
          have Hm := Lib.hid hm
          have Hqok := Lib.hid hqok
          clear hr hqq hm hqok hst1 hv1 hE
          go_wp2_with (first | (go_at_call 32; refine (HLB.out _ HE.out.ip).mono ?_; rintro e w3 ⟨v3, rfl, ho3, hx3⟩; rw [Hlb.out] at ho3; obtain ⟨A3, c3, hv3, _, _⟩ := ho3.slice; rw [List.length_map, ← Hm.out] at hv3; subst hv3))
          clear hcp
          have hcn3 := (HE.out.ext hx3).cn
          have hce3 := (HE.out.ext hx3).ce
          have Hel : Hid (∀ (k : Nat) (x : Int), qq[k]? = some x → ∃ y z : Nat, x = y ∧ y ≤ 12 ∧ z = t + y ∧ ∃ ad, A3 = some ad ∧ w3.cell? (ad.add k) = some (.int .i64 z)) := fun k x hx => by
            have h1 := Hqok.out.at_ hx
            obtain ⟨A', c', hv', _, _, hcell⟩ := ho3.ints
            simp only [Value.slice.injEq] at hv'
            obtain ⟨rfl, _, _⟩ := hv'
            obtain ⟨_, ad, e1, e2⟩ := hcell k ((t : Int) + x) (by rw [List.getElem?_map, hx]; rfl)
            refine ⟨x.toNat, t + x.toNat, by omega, by omega, rfl, ad, e1, ?_⟩
            rw [e2, show ((t + x.toNat : Nat) : Int) = (t : Int) + x by omega]
          clear ho3
          go_loop [12, 39] (fun mv iv => ∃ k mk : Nat, k ≤ m ∧ mk < 137438953472 ∧ mv = .int .i64 mk ∧ iv = .int .i64 k ∧ Hid (mk = pm qq k * 2 ^ t)) (fun _ iv => m - (intOf iv).toNat)
          case atStart => exact ⟨0, 0, Nat.zero_le _, by omega, rfl, rfl, by unfold Hid; rw [pm_zero, Nat.zero_mul]⟩
          case round =>
            obtain ⟨k, mk, hk, hmk, rfl, rfl, hmke⟩ := hrel
            rcases hx : qq[k]? with _ | x
            · have hkm : m ≤ k := by rw [Hm.out]; exact List.getElem?_eq_none_iff.1 hx
              have hke : k = m := by omega
              obtain ⟨M, hM⟩ : ∃ M, M = maskN qq := ⟨_, rfl⟩
              have hM8 : M < 8192 := by rw [hM]; exact maskN_lt Hqok.out
              have hMo : M % 2 = 1 := by rw [hM]; exact maskN_odd Hqok.out
              have Hmk : Hid (mk = M * 2 ^ t) := by unfold Hid; rw [hM, maskN, ← Hm.out, ← hke]; exact hmke.out
              have Hstep : Hid (ptL (maskN p) (maskN (mirL p)) n f t s l (j + 1) = ptL (maskN p) (maskN (mirL p)) n f t s l j ++ ptC (maskN p) (maskN (mirL p)) n f t s l M j) := by
                unfold Hid; rw [ptL_step _ _ _ _ _ _ _ _ hj01, hM, Hmq.out]
              obtain ⟨N, hN⟩ : ∃ N, N = 2 ^ n := ⟨_, rfl⟩
              have hN24 : N ≤ 16777216 := by rw [hN]; exact Nat.pow_le_pow_right (n := 2) (by decide) hn
              have hwn : IntKind.i64.wrap ((2 : Int) ^ n) = (N : Int) := by rw [show (2 : Int) ^ n = ((2 ^ n : Nat) : Int) by rw [Int.natCast_pow]; rfl, ← hN]; exact wrap_nat (by omega)
              have HN := Lib.hid hN
              obtain ⟨gA, hgA⟩ : ∃ gA, gA = mk &&& T := ⟨_, rfl⟩
              have hand := i64_and mk T (by omega) (by omega)
              rw [← hgA] at hand
              have Hg : Hid (gA = 0 ↔ s &&& M = 0) := by unfold Hid; rw [hgA, Nat.and_comm, Hmk.out, Htk.out]; exact tk_and0
              have hr3 : Hid (CPost w0 w bo (.slice A q c) l o us ls (ptL (maskN p) (maskN (mirL p)) n f t s l j) w3) := CPost.ext ⟨o1, vs1, Hst1.out, Hv1.out, hfr1, hat1, hvs1⟩ hx3
              have hkl : ¬ (k : Int) < (m : Int) := by omega
              clear hx hmke Hel hM hN hgA hke hkm
              by_cases g1 : gA = 0
              · have hb1 : ((gA : Int) == 0) = true := by rw [g1]; rfl
                by_cases g2 : mk < N
                · have hlt : (mk : Int) < (N : Int) := by omega
                  have hor := i64_or T mk (by omega) (by omega)
                  obtain ⟨T2, hT2⟩ : ∃ T2, T2 = T ||| mk := ⟨_, rfl⟩
                  rw [← hT2] at hor
                  have HT2 := Lib.hid hT2
                  have Hg1 := Lib.hid g1
                  clear hT2 g1
                  have HI : Hid (∀ (v5 : Value) (w5 : World), Own w5 w0.heap.size v5 (l ++ [(cd : Int)]) → CSt w0 w5 bo o1 (us ++ vs1) (ls ++ ptL (maskN p) (maskN (mirL p)) n f t s l j) ∧ Apart v5 o1 ∧ (∀ u ∈ us ++ vs1, Apart u v5) ∧ Apart (.slice A q c) o1 →
                      Calls Tryd.prog 40 #[v5, .int .i64 T2, .pointer (some ⟨bn, 0, none⟩), .pointer (some ⟨bo, 0, none⟩), .pointer (some ⟨bk, 0, none⟩), .pointer (some ⟨bp, 0, none⟩), .pointer (some ⟨be, 0, none⟩)] w5
                        fun e w' => (∃ r, e = .returned r) ∧ CPost w0 w5 bo v5 (l ++ [(cd : Int)]) o1 (us ++ vs1) (ls ++ ptL (maskN p) (maskN (mirL p)) n f t s l j) (ptC (maskN p) (maskN (mirL p)) n f t s l M j) w') := by
                    intro v5 w5 ho5 hR
                    obtain ⟨hR1, hR2, hR3, _⟩ := hR
                    have h0 : s &&& M = 0 := Hg.out.1 Hg1.out
                    have hfit : M / 2 ^ (n - t) = 0 := (fits_iff ht).2 (by rw [← Hmk.out, ← HN.out]; exact g2)
                    obtain ⟨e1, e2, e3, e4, e5⟩ := cv_step (A := M) hMo hse htn2 hn hs h0 hfit
                    have hT2 : T2 = tk (t + (D (s + M)).2) (D (s + M)).1 := by rw [tk_D, HT2.out, Hmk.out, Htk.out]; exact tk_or (by omega) (by omega) h0
                    have hC : ptC (maskN p) (maskN (mirL p)) n f t s l M j = (cv (maskN p) (maskN (mirL p)) n f (t + (D (s + M)).2) (D (s + M)).1).map fun x => (l ++ [(cd : Int)]) ++ x := by
                      unfold ptC
                      rw [if_pos ⟨h0, hfit⟩, Hcd.out]
                      apply List.map_congr_left
                      intro y _
                      rw [List.append_assoc]
                      rfl
                    rw [hC, hT2]
                    have hL := ptL_len (maskN p) (maskN (mirL p)) n f t s l j hj01
                    have hU := Hst1.out.rows.2.1
                    have hU0 := Hst.out.rows.2.1
                    have hP : 2 ^ (f + 1) = 2 ^ f * 2 := Nat.pow_succ 2 f
                    have hUl := Hul.out
                    rw [List.length_append] at hU
                    refine ih _ _ v5 o1 _ _ _ w5 e2 e3 e4 (by omega) (by omega) ?_ ?_ hR1 ho5 hR2 hR3
                    · rw [List.length_append]; simp; omega
                    · rw [List.length_append]; rw [List.length_append] at hU; omega
                  have hx4 : Hid (Ext wr (w3.drew.alloc (.cells #[.int .i64 cd] 3))) := Ext.tr (Below.drew hx3) (one_boxC w3.drew _)
                  have hce4 := (HE.out.ext (Ext.tr hx3 (one_boxC w3 (.cells #[.int .i64 cd] 3)))).ce
                  clear ih
                  go_wp2
                  go_region_law (first
                    | (refine step_append1B rfl (.tmp 59) (.tmp 61) rfl rfl rfl (Hv1.out.ext hx4.out) (cell_new0 w3.drew _ _) (by unfold I64; omega) (by omega) (Nat.le_trans Hst1.out.gr.size hx4.out.size) ?_; intro v5 w5 ho5 hg5 hat5; have R5 := Lib.hid (round_pre hbo Hv.out hvo huv Hst1.out hat1 hvs1 hx4.out hg5 hat5); have hce5 := (Henv0.out.kept R5.out.1.gr).ce; obtain ⟨A5, c5, hv5, _, _⟩ := ho5.slice; obtain ⟨q5, hq5⟩ : ∃ q5, q5 = (l ++ [(cd : Int)]).length := ⟨_, rfl⟩; rw [← hq5] at hv5; clear hq5; subst hv5)
                    | (go_simp; go_at_call 40; refine (HI.out _ _ ho5 R5.out).mono ?_; rintro e w6 ⟨⟨r, rfl⟩, hp6⟩; have Fin := Lib.hid (round_fin hbo Hv.out R5.out.2.2.2 Hv1.out hfr1 hat1 hvs1 hx4.out hg5 hat5 hp6)))
                  all_goals
                    go_wp2
                    go_roundw
                    case rel => exact ⟨j + 1, by omega, by go_num, by rw [Hstep.out]; exact Fin⟩
                    case measure => simp [intOf]; omega
                · have hlt : ¬ (mk : Int) < (N : Int) := by omega
                  have Hnil : Hid (ptL (maskN p) (maskN (mirL p)) n f t s l (j + 1) = ptL (maskN p) (maskN (mirL p)) n f t s l j) := by
                    unfold Hid
                    rw [Hstep.out, ptC, if_neg (fun h => g2 (by rw [Hmk.out, HN.out]; exact (fits_iff ht).1 h.2)), List.append_nil]
                  clear g1 g2
                  go_wp2
                  go_roundw
                  case rel => exact ⟨j + 1, by omega, by go_num, by rw [Hnil.out]; exact hr3⟩
                  case measure => simp [intOf]; omega
              · have hb1 : ((gA : Int) == 0) = false := by rw [beq_eq_false_iff_ne]; omega
                have Hnil : Hid (ptL (maskN p) (maskN (mirL p)) n f t s l (j + 1) = ptL (maskN p) (maskN (mirL p)) n f t s l j) := by
                  unfold Hid
                  rw [Hstep.out, ptC, if_neg (fun h => g1 (Hg.out.2 h.1)), List.append_nil]
                clear g1
                go_wp2
                go_roundw
                case rel => exact ⟨j + 1, by omega, by go_num, by rw [Hnil.out]; exact hr3⟩
                case measure => simp [intOf]; omega
            · have hkm : k < m := by rw [Hm.out]; exact (List.getElem?_eq_some_iff.1 hx).1
              obtain ⟨y, z, hxy, hy12, hz, ad, hA3, hc⟩ := Hel.out k x hx
              have hz36 : z ≤ 36 := by omega
              have hpow : (2 : Int) ^ z = ((2 ^ z : Nat) : Int) := by rw [Int.natCast_pow]; rfl
              have hpl : 2 ^ z < 137438953472 := Nat.pow_lt_pow_right (a := 2) (by decide) (show z < 37 by omega)
              have hw : IntKind.i64.wrap ((2 : Int) ^ z) = ((2 ^ z : Nat) : Int) := by rw [hpow]; exact wrap_nat (by omega)
              have hor := i64_or mk (2 ^ z) (by omega) (by omega)
              have hnl : mk ||| 2 ^ z < 137438953472 := or_pow_lt (n := 37) hmk (by omega)
              have Hn : Hid (mk ||| 2 ^ z = pm qq (k + 1) * 2 ^ t) := by
                have h := pm_shift Hqok.out (t := t) hx
                unfold Hid
                rw [hmke.out, hz, show y = x.toNat by omega]
                exact h
              subst hA3
              clear hx hxy hz hpow hmke Hel
              generalize mk ||| 2 ^ z = mk' at *
              generalize 2 ^ z = zz at *
              go_wp2
              go_round
              case rel => exact ⟨k + 1, mk', by omega, hnl, by go_num, by go_num, Hn⟩
              case measure => simp [intOf]; omega
        · obtain rfl : j = kd := by omega
          go_wp2
          go_returns
          exact ⟨⟨_, rfl⟩, by rw [Hall.out]; exact hr.out⟩
end Go.Proofs.YtpnbcgnbkanebaaDoor
