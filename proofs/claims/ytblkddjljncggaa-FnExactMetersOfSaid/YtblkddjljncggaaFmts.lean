/- Contracts: metersFrom, l18Meters (each calls itself) and MetersOf on both sides. -/
import Derived.Test.YtblkddjljncggaaLss
import Derived.Test.YtblkddjljncggaaFcol
import Derived.Test.YtblkddjljncggaaFcat
import Derived.Outline
import Derived.Deep.RegionLaw
namespace Go.Proofs.Ytblkddjljncggaa
open Go.RowKit
/-- the meters behind l whose factors are below x -/
def mtsUp (f : Nat → List Int → List (List Int)) (n : Nat) (l : List Int) : Nat → List (List Int)
  | 0 => []
  | x + 1 => mtsUp f n l x ++ (if 2 ≤ x ∧ n % x = 0 then f (n / x) (l ++ [(x : Int)]) else [])
def mts : Nat → Nat → List Int → List (List Int)
  | 0, n, l => if n = 1 then [l] else []
  | d + 1, n, l => if n = 1 then [l] else mtsUp (mts d) n l 8
def mtsB : Nat → Nat
  | 0 => 1
  | d + 1 => 8 * mtsB d
theorem mtsB_pos (d : Nat) : 1 ≤ mtsB d := by
  induction d with
  | zero => exact Nat.le_refl _
  | succ d ih => simp only [mtsB]; omega
theorem mtsUp_len {f : Nat → List Int → List (List Int)} {M : Nat} (h : ∀ n l, (f n l).length ≤ M) (n : Nat) (l : List Int) (x : Nat) : (mtsUp f n l x).length ≤ x * M := by
  induction x with
  | zero => simp [mtsUp]
  | succ x ih =>
    rw [mtsUp, List.length_append, Nat.succ_mul]
    split
    · have := h (n / x) (l ++ [(x : Int)]); omega
    · simp only [List.length_nil]; omega
theorem mts_len (d : Nat) : ∀ n l, (mts d n l).length ≤ mtsB d := by
  induction d with
  | zero => intro n l; simp only [mts, mtsB]; split <;> simp
  | succ d ih =>
    intro n l
    simp only [mts, mtsB]
    split
    · have := mtsB_pos d; simp only [List.length_singleton]; omega
    · exact mtsUp_len ih n l 8
theorem mts_room {d n x : Nat} {l : List Int} (q : Nat) (l' : List Int) (hx : x ≤ 7) (hb : 8 * mtsB d ≤ 40000) : (mtsUp (mts d) n l x).length + (mts d q l').length ≤ 1000000 := by
  have h1 := mtsUp_len (mts_len d) n l x
  have h2 := mts_len d q l'
  have h3 := Nat.mul_le_mul_right (mtsB d) hx
  omega
theorem mts_bound {d k : Nat} (h : k + (d + 1) = 5) : 8 * mtsB d ≤ 40000 := by
  have : d ≤ 4 := by omega
  match d, this with
  | 0, _ | 1, _ | 2, _ | 3, _ | 4, _ => decide
theorem mtsUp_mem {f : Nat → List Int → List (List Int)} {M : Nat} {l : List Int} (h : ∀ n (x : Nat), ∀ r ∈ f n (l ++ [(x : Int)]), r.length ≤ M) (n : Nat) (x : Nat) : ∀ r ∈ mtsUp f n l x, r.length ≤ M := by
  induction x with
  | zero => intro r hr; simp [mtsUp] at hr
  | succ x ih =>
    intro r hr
    rw [mtsUp, List.mem_append] at hr
    rcases hr with hr | hr
    · exact ih r hr
    · split at hr
      · exact h _ _ r hr
      · simp at hr
theorem mts_mem (d : Nat) : ∀ n l, ∀ r ∈ mts d n l, r.length ≤ l.length + d := by
  induction d with
  | zero =>
    intro n l r hr
    simp only [mts] at hr
    split at hr
    · simp only [List.mem_singleton] at hr; subst hr; omega
    · simp at hr
  | succ d ih =>
    intro n l r hr
    simp only [mts] at hr
    split at hr
    · simp only [List.mem_singleton] at hr; subst hr; omega
    · refine mtsUp_mem (M := l.length + (d + 1)) (fun n x r hr => ?_) n 8 r hr
      have := ih n _ r hr
      simp only [List.length_append, List.length_singleton] at this
      omega
theorem mts_one (d : Nat) (l : List Int) : mts d 1 l = [l] := by cases d <;> exact if_pos rfl
theorem mts_more {d n : Nat} {l : List Int} (h : ¬ n = 1) : mts (d + 1) n l = mtsUp (mts d) n l 8 := if_neg h
theorem mts_zero {n : Nat} {l : List Int} (h : ¬ n = 1) : mts 0 n l = [] := if_neg h
theorem mtsUp_two (f : Nat → List Int → List (List Int)) (n : Nat) (l : List Int) : mtsUp f n l 2 = [] := by simp [mtsUp]
theorem mtsUp_t {f : Nat → List Int → List (List Int)} {n : Nat} {l : List Int} {x : Nat} (h2 : 2 ≤ x) (h : n % x = 0) : mtsUp f n l (x + 1) = mtsUp f n l x ++ f (n / x) (l ++ [(x : Int)]) := by
  rw [mtsUp, if_pos ⟨h2, h⟩]
theorem mtsUp_f {f : Nat → List Int → List (List Int)} {n : Nat} {l : List Int} {x : Nat} (h : ¬ n % x = 0) : mtsUp f n l (x + 1) = mtsUp f n l x := by
  rw [mtsUp, if_neg (fun e => h e.2), List.append_nil]
theorem mts_div {n x : Nat} (hn : 1 ≤ n) (h24 : n ≤ 24) (hx : 2 ≤ x) (h : n % x = 0) : 1 ≤ n / x ∧ n / x ≤ 24 := by
  refine ⟨?_, Nat.le_trans (Nat.div_le_self _ _) h24⟩
  have hd := Nat.dvd_of_mod_eq_zero h
  exact Nat.div_pos (Nat.le_of_dvd hn hd) (by omega)
theorem Lss.one {w : World} {B : Nat} {v : Value} {l : List Int} (h : Own w B v l) (hB : B ≤ w.heap.size) : Lss (w.alloc (.cells #[v] 22)) B (.slice (some ⟨w.heap.size, 0, none⟩) 1 1) [v] [l] := by
  refine ⟨World.ownsRow_lit w #[v] 1 hB (by unfold maxLen; omega) rfl, rfl, ?_, ?_, by simp⟩
  · intro k u l' hu hl
    match k, hu, hl with
    | 0, hu, hl => simp at hu hl; subst hu; subst hl; exact h.alloc _
  · intro u hu
    simp only [List.mem_singleton] at hu
    subst hu
    cases e : u.ownBlock with
    | none => exact .inl e
    | some k =>
      right
      rw [e]
      intro e'
      have := (h.lt k e).2
      simp only [Value.ownBlock, Option.some.injEq] at e'
      omega
/-- append(out, nil...) -/
theorem run_append_nilS {w : World} {B : Nat} {v : Value} {us : List Value} {ls : List (List Int)} (h : Lss w B v us ls) (ty : TypeId) (c : Nat) : (Builtin.append_ #[31, 31] ty #[v, .slice none 0 c]).run Try.prog w = .ok v w := by
  obtain ⟨i0, hi, hz0, hz1, hz2⟩ := info_parts Try.infoSl
  rcases h.1.2 with ⟨rfl, hn⟩ | ⟨g, cap, cur, rfl, _, _, hnc, _⟩
  · simp [Builtin.append_, run_underlying Try.underlying31, sizeOf, typeInfo, hi, Builtin.lenOf, Builtin.firstCells]
  · simp [Builtin.append_, run_underlying Try.underlying31, sizeOf, typeInfo, hi, Builtin.lenOf, Builtin.firstCells, hnc, storeCells]
/-- append(out, xs...): xs what a call has just handed back. -/
theorem step_appendZ {ops : Array Oper} {o : Oper} {a : Act} {K : Act → World → Prop} {Q : Exit → Act → World → Prop} {E : Prop} {wr w3 : World} (hgd : o.guard = none) (s x : Operand)
    (ho : o.op = .call { callee := .builtin .append, args := #[s, x], argTypes := #[31, 31] })
    {B : Nat} {v v2 : Value} {us us2 : List Value} {ls ls2 : List (List Int)} (hs : a.eval s = v) (hx : a.eval x = v2)
    (hr : Lss wr B v us ls) (hext : Ext wr w3) (h2 : Lss w3 wr.heap.size v2 us2 ls2) (hlen : ls.length + ls2.length ≤ 1000000) (hB : B ≤ wr.heap.size)
    (h : ∀ v' w', (∃ us', Lss w' B v' us' (ls ++ ls2)) → Below B w3 w' → K (a.put o.dst v') w') :
    if Region.wanted o (yielded ops a.tmps) = true then Oper.wp Try.prog o a w3 K Q else E := by
  have hw : Region.wanted o (yielded ops a.tmps) = true := by simp [Region.wanted, hgd]
  rw [if_pos hw]
  have hr3 := hr.ext hext
  have hmem2 : ∀ u ∈ us2, ∃ l, Own w3 wr.heap.size u l := fun u hu => h2.mem hu
  rcases h2.1.2 with ⟨hv2, hn⟩ | ⟨g, cap, cur, hv2, _⟩
  · have e1 : us2 = [] := List.eq_nil_of_length_eq_zero hn
    subst e1
    have e2 : ls2 = [] := List.eq_nil_of_length_eq_zero h2.2.1.symm
    subst e2
    have hrun := run_append_nilS hr3 o.type 0
    unfold Oper.wp execOp
    simp only [ho, resolve, invoke, builtin, Sem.run_bind, Sem.run_pure, Result.andThen_ok, List.map_toArray, List.map_cons, List.map_nil, hs, hx, hv2, hrun]
    exact h v w3 ⟨us, by rw [List.append_nil]; exact hr3⟩ (Below.refl _ _)
  · subst hv2
    refine op_appendG (us2 := us2) (ls2 := ls2) s x ho hs hx hr3 rfl h2.2.1 ?_ (fun k u l hu hl => (h2.2.2.1 k u l hu hl).base hB) h2.2.2.2.2 ?_ ?_ (by rw [hr.2.1, h2.2.1]; exact hlen) (Nat.le_trans hB hext.size) fun v' w' h1 _ h3 _ => h v' w' ⟨_, h1⟩ h3
    · intro j u hj
      have := h2.cell hj
      have e : (⟨g, 0, none⟩ : Addr).add j = ⟨g, j, none⟩ := by unfold Addr.add; split <;> simp_all
      rw [e]
      exact this
    · intro u hu
      obtain ⟨l, hl⟩ := hmem2 u hu
      exact Apart.baseL hl fun k hk => (hr.1.lt k hk).2
    · intro p hp q hq
      obtain ⟨l, hl⟩ := hmem2 q hq
      obtain ⟨m, hm⟩ := hr.mem hp
      exact Apart.symmL hl fun k hk => (hm.lt k hk).2
theorem ext_ofD {w w' : World} (h : Ext w.drew w') : Ext w w' := ⟨h.os, h.tape, h.output, h.size, h.block⟩
theorem drew_ext {w : World} : Ext w w.drew := Below.drew (Below.refl _ _)
theorem divw {n x m : Nat} (hm : m = n / x) (hn : n ≤ 24) : IntKind.i64.wrap ((n : Int).tdiv (x : Int)) = (m : Int) := by
  have := Nat.div_le_self n x
  rw [Int.tdiv_eq_ediv_of_nonneg (by omega), ← Int.natCast_ediv, ← hm]; exact IntWalk.i64_in _ (by omega)
theorem modw {n x m : Nat} (hm : m = n % x) (hn : n ≤ 24) : IntKind.i64.wrap ((n : Int).tmod (x : Int)) = (m : Int) := by
  have := Nat.mod_le n x
  rw [Int.tmod_eq_emod_of_nonneg (by omega), ← Int.natCast_emod, ← hm]; exact IntWalk.i64_in _ (by omega)
set_option maxRecDepth 100000 in
set_option maxHeartbeats 4000000 in
theorem metersFrom_1 (l : List Int) (v : Value) (w : World) (hv : Ints w v l) (hl : l.length ≤ 5) : Calls Try.prog 44 #[.int .i64 1, v] w (RLs [l] w) := by
  have Hv := Lib.hid hv
  clear hv
  go_enter Try.func44, Try.ntmps44
  go_wp2_with (first | (go_at_call 61; refine (slClone_c l _ _ Hv.out (by omega)).mono ?_; rintro e w1 ⟨v1, rfl, ho1, hx1⟩; obtain ⟨A1, n1, c1, rfl⟩ := ho1.form))
  have hL := Lib.hid (Lss.one ho1 hx1.size)
  have hX := Lib.hid (hx1.tr (one_box w1 (.cells #[.slice A1 n1 c1] 22)))
  go_ret
  exact ⟨_, _, rfl, hL.out, hX.out⟩
set_option maxRecDepth 100000 in
set_option maxHeartbeats 4000000 in
theorem metersFrom_c (d : Nat) : ∀ (n : Nat) (l : List Int) (v : Value) (w : World), Ints w v l → l.length + d = 5 → 1 ≤ n → n ≤ 24 → Calls Try.prog 44 #[.int .i64 n, v] w (RLs (mts d n l) w) := by
  induction d with
  | zero =>
    intro n l v w hv hl hn1 hn24
    by_cases h1 : n = 1
    · subst h1
      rw [mts_one]
      exact metersFrom_1 l v w hv (by omega)
    · rw [mts_zero h1]
      obtain ⟨A, c, hve, _, _⟩ := hv.form0
      obtain ⟨k, hk⟩ : ∃ k, k = l.length := ⟨_, rfl⟩
      rw [← hk] at hve hl
      obtain rfl : k = 5 := by omega
      subst hve
      have hb1 : ((n : Int) == 1) = false := by simp; omega
      clear hk hl hv
      go_enter Try.func44, Try.ntmps44
      go_wp2_with fail
      go_loopw [5, 6] (fun o i wr => o = .slice none 0 0 ∧ i = .int .i64 2 ∧ wr = w) (fun _ _ _ => 0)
      case atStart => exact ⟨rfl, rfl, rfl⟩
      case round =>
        obtain ⟨rfl, rfl, rfl⟩ := hrel
        go_wp2_with fail
        go_ret
        exact ⟨_, _, rfl, Lss.nil _ _, Below.refl _ _⟩
  | succ d ih =>
    intro n l v w hv hl hn1 hn24
    by_cases h1 : n = 1
    · subst h1
      rw [mts_one]
      exact metersFrom_1 l v w hv (by omega)
    · have H := Lib.hid (mts_more (d := d) (l := l) h1)
      obtain ⟨A, c, hve, _, _⟩ := hv.form0
      obtain ⟨k, hk⟩ : ∃ k, k = l.length := ⟨_, rfl⟩
      have Hk := Lib.hid hk
      rw [← hk] at hve hl
      subst hve
      have hb1 : ((n : Int) == 1) = false := by simp; omega
      have hk5 : k < 5 := by omega
      have Hv := Lib.hid hv
      have Hd := Lib.hid hl
      have Hmb := Lib.hid (mts_bound hl)
      clear hv hk hl
      go_enter Try.func44, Try.ntmps44
      go_wp2_with fail
      go_loopw [5, 6] (fun o i wr => ∃ (x : Nat) (us : List Value), 2 ≤ x ∧ x ≤ 8 ∧ i = .int .i64 x ∧ Hid (Lss wr w.heap.size o us (mtsUp (mts d) n l x) ∧ Ext w wr)) (fun _ i _ => 8 - (intOf i).toNat)
      case atStart => exact ⟨2, [], by omega, by omega, rfl, by unfold Hid; rw [mtsUp_two]; exact ⟨Lss.nil _ _, Below.refl _ _⟩⟩
      case round =>
        obtain ⟨x, us, hx2, hx8, rfl, hr⟩ := hrel
        obtain ⟨Ao, co, rfl, _, _⟩ := hr.out.1.form
        by_cases hx7 : x ≤ 7
        · obtain ⟨m, hm⟩ : ∃ m, m = n % x := ⟨_, rfl⟩
          have hmw := modw hm hn24
          have hxi : (2 : Int) ≤ (x : Int) := by omega
          by_cases hm0 : m = 0
          · rw [hm0] at hm
            have Hn := Lib.hid (mtsUp_t (f := mts d) (l := l) hx2 hm.symm)
            obtain ⟨q, hq⟩ : ∃ q, q = n / x := ⟨_, rfl⟩
            have hqw := divw hq hn24
            have hqb := mts_div hn1 hn24 hx2 hm.symm
            rw [← hq] at hqb
            obtain ⟨hq1, hq24⟩ := hqb
            have Hq := Lib.hid hq
            have Hlen := Lib.hid (mts_room (d := d) (n := n) (l := l) q (l ++ [(x : Int)]) hx7 Hmb.out)
            have Hvr := Lib.hid (Hv.out.ext hr.out.2)
            have hsz := hr.out.2.size
            have hmb : ((n : Int) % (x : Int) == 0) = true := by rw [← Int.natCast_emod, ← hm]; rfl
            have hdv : (n : Int) / (x : Int) = (q : Int) := by rw [← Int.natCast_ediv, ← hq]
            have hx0 : ¬ x = 0 := by omega
            have hqw2 : IntKind.i64.wrap (q : Int) = (q : Int) := IntWalk.i64_in _ (by omega)
            clear hm hq hmw hm0
            go_wp2_with fail
            go_region_law (first
              | (go_simp; go_at_call 61; refine (slClone_c l _ _ (by first | exact Hvr.out | exact Hvr.out.ext (Ext.allocD _ _)) (by have := Hk.out; omega)).mono ?_; rintro e w1 ⟨v1, rfl, ho1, hx1⟩; obtain ⟨A1, n1, c1, rfl⟩ := ho1.form; first
                  | (have hX1 : Hid (Ext wr w1) := ext_ofD hx1; have hO1 : Own w1 wr.heap.size (.slice A1 n1 c1) l := ho1)
                  | (have hX1 : Hid (Ext wr w1) := (one_box wr (.cells #[.int .i64 x] 3)).tr (ext_ofD hx1); have hcS : Hid (w1.cell? ⟨wr.heap.size, 0, none⟩ = some (.int .i64 x)) := (ext_ofD hx1).cell_of (cell_new0 wr (.int .i64 x) 3); have hO1 : Own w1 wr.heap.size (.slice A1 n1 c1) l := ho1.base (by show _ ≤ (wr.alloc _).heap.size; simp)))
              | (go_simp; go_at_call 44; refine (ih q (l ++ [(x : Int)]) _ _ ho3.ints (by have := Hk.out; have := Hd.out; simp only [List.length_append, List.length_singleton]; omega) hq1 hq24).mono ?_; rintro e w4 ⟨v4, us4, rfl, hL4, hx4⟩; obtain ⟨A4, c4, rfl, _, _⟩ := hL4.form)
              | (refine step_append1 rfl (.tmp 30) (.tmp 32) rfl rfl rfl hO1 hcS.out (by unfold I64; omega) (by have := Hk.out; omega) hX1.out.size ?_; intro v3 w3 ho3 hg3 hb3 hat3; obtain ⟨A3, n3, c3, rfl⟩ := ho3.form; have hX3 := Lib.hid (hX1.out.trans hb3))
              | (refine step_append1 rfl (.tmp 30) (.tmp 32) rfl rfl rfl (hO1.alloc (.cells #[.int .i64 x] 3)) (cell_new0 w1 (.int .i64 x) 3) (by unfold I64; omega) (by have := Hk.out; omega) (hX1.out.tr (one_box w1 _)).size ?_; intro v3 w3 ho3 hg3 hb3 hat3; obtain ⟨A3, n3, c3, rfl⟩ := ho3.form; have hX3 := Lib.hid ((hX1.out.tr (one_box w1 _)).trans hb3))
              | (refine step_appendZ rfl (.tmp 25) (.tmp 34) rfl rfl rfl hr.out.1 (Ext.tr hX3.out hx4) (hL4.base hX3.out.size) Hlen.out hsz ?_; rintro v5 w5 ⟨us5, hL5⟩ hb5; obtain ⟨A5, c5, rfl, _, _⟩ := hL5.form; have hX5 := Lib.hid ((Ext.tr hr.out.2 (Ext.tr hX3.out hx4)).trans hb5)))
            all_goals
              go_wp2_with fail
              go_roundw
              case rel => exact ⟨x + 1, us5, by omega, by omega, by go_num, by unfold Hid; rw [Hn.out, ← Hq.out]; exact ⟨hL5, hX5.out⟩⟩
              case measure => simp [intOf]; omega
          · have Hn := Lib.hid (mtsUp_f (f := mts d) (n := n) (l := l) (x := x) (by rw [← hm]; exact hm0))
            have hmb : ((n : Int) % (x : Int) == 0) = false := by rw [← Int.natCast_emod, ← hm]; simp; omega
            clear hm
            go_wp2_with fail
            go_roundw
            case rel => exact ⟨x + 1, us, by omega, by omega, by go_num, by unfold Hid; rw [Hn.out]; exact hr.out⟩
            case measure => simp [intOf]; omega
        · obtain rfl : x = 8 := by omega
          go_wp2_with fail
          go_ret
          exact ⟨_, us, rfl, by rw [H.out]; exact hr.out.1, hr.out.2⟩
/-- What a call leaves that gathers slices behind those of the caller. -/
def MO (B : Nat) (out : Value) (ls : List (List Int)) (w : World) (e : Ending) (w' : World) : Prop :=
  ∃ v us, e = .returned v ∧ Lss w' B v us ls ∧ w.grownBy w' out.ownBlock ∧ ∀ k, v.ownBlock = some k → out.ownBlock = some k ∨ w.heap.size ≤ k
theorem wp_appendG1 {ops : Array Oper} {rest : List Oper} {o : Oper} {a : Act} {Q : Exit → Act → World → Prop} {w2 : World} {N : Nat} (hN : N = w2.heap.size) (hgd : o.guard = none) (s x : Operand)
    (ho : o.op = .call { callee := .builtin .append, args := #[s, x], argTypes := #[31, 31] })
    {B : Nat} {v v2 : Value} {us : List Value} {ls : List (List Int)} {l : List Int} (hs : a.eval s = v) (hx : a.eval x = .slice (some ⟨N, 0, none⟩) 1 1)
    (hr : Lss w2 B v us ls) (ho2 : Own w2 B v2 l) (hav : Apart v2 v) (hau : ∀ p ∈ us, Apart p v2) (hlen : ls.length ≤ 999999) (hB : B ≤ w2.heap.size)
    (h : ∀ v' w', MO B v (ls ++ [l]) w2 (.returned v') w' → wpList Try.prog ops Q rest (a.put o.dst v') w') :
    wpList Try.prog ops Q (o :: rest) a (w2.alloc (.cells #[v2] 22)) := by
  subst hN
  refine wpList_plain hgd fun _ hK => op_appendG (us2 := [v2]) (ls2 := [l]) s x ho hs hx (hr.ext (one_box w2 _)) rfl rfl ?_ ?_ (by simp) (by simpa using hav) (by simpa using hau) (by rw [hr.2.1]; simp; omega) (by simp; omega) fun v' w' h1 h2 _ h4 => hK _ _ (h v' w' ⟨v', _, rfl, h1, grownBy_tr (World.grownBy_alloc w2 _ _) h2, fun k hk => ?_⟩)
  · intro j u hj
    match j, hj with
    | 0, hj => simp at hj; subst hj; simp [Addr.add]
  · intro k u l' hu hl
    match k, hu, hl with
    | 0, hu, hl => simp at hu hl; subst hu; subst hl; exact ho2.alloc _
  · rcases h4 k hk with h | h
    · exact .inl h
    · right; simp only [World.size_alloc] at h; omega
set_option maxRecDepth 100000 in
set_option maxHeartbeats 4000000 in
theorem l18Meters_1 (l : List Int) (v : Value) (w : World) (B : Nat) (out : Value) (us : List Value) (os : List (List Int)) (hv : Own w B v l) (ho : Lss w B out us os) (hap : Apart v out) (hau : ∀ u ∈ us, Apart u v)
    (hlen : os.length ≤ 600000) (hB : B ≤ w.heap.size) : Calls Try.prog 43 #[.int .i64 1, v, out] w (MO B out (os ++ [l]) w) := by
  obtain ⟨A, n, c, rfl⟩ := hv.form
  obtain ⟨Ao, co, rfl, _, _⟩ := ho.form
  have Hv := Lib.hid hv
  have Ho := Lib.hid ho
  have Hap := Lib.hid hap
  have Hau := Lib.hid hau
  clear hv ho hap hau
  go_enter Try.func43, Try.ntmps43
  go_wp2_with (first | (at_builtin; refine wp_appendG1 rfl rfl (.tmp 10) (.tmp 12) rfl rfl rfl Ho.out Hv.out Hap.out Hau.out (by omega) hB ?_; rintro v2 w2 ⟨v3, us3, e3, hL3, hg3, hat3⟩; obtain ⟨A3, c3, hf3, _, _⟩ := hL3.form; subst hf3; cases e3))
  go_ret
  exact ⟨_, us3, rfl, hL3, hg3, hat3⟩
set_option maxRecDepth 100000 in
set_option maxHeartbeats 4000000 in
theorem l18Meters_c (d : Nat) : ∀ (n : Nat) (l : List Int) (v : Value) (w : World) (B : Nat) (out : Value) (us : List Value) (os : List (List Int)), Own w B v l → Lss w B out us os → Apart v out → (∀ u ∈ us, Apart u v) →
    os.length + mtsB d ≤ 600000 → B ≤ w.heap.size → l.length + d = 5 → 1 ≤ n → n ≤ 24 → Calls Try.prog 43 #[.int .i64 n, v, out] w (MO B out (os ++ mts d n l) w) := by
  induction d with
  | zero =>
    intro n l v w B out us os hv ho hap hau hlen hB hl hn1 hn24
    by_cases h1 : n = 1
    · subst h1
      rw [mts_one]
      exact l18Meters_1 l v w B out us os hv ho hap hau (by omega) hB
    · rw [mts_zero h1, List.append_nil]
      obtain ⟨A, c, rfl, _, _⟩ := hv.slice
      obtain ⟨Ao, co, rfl, _, _⟩ := ho.form
      obtain ⟨k, hk⟩ : ∃ k, k = l.length := ⟨_, rfl⟩
      rw [← hk] at hl ⊢
      obtain rfl : k = 5 := by omega
      have hb1 : ((n : Int) == 1) = false := by simp; omega
      have Ho := Lib.hid ho
      clear hk hl hv ho hap hau
      go_enter Try.func43, Try.ntmps43
      go_wp2_with fail
      go_ret
      exact ⟨_, us, rfl, Ho.out, World.grownBy.refl _ _, fun k hk => .inl hk⟩
  | succ d ih =>
    intro n l v w B out us os hv ho hap hau hlen hB hl hn1 hn24
    by_cases h1 : n = 1
    · subst h1
      rw [mts_one]
      exact l18Meters_1 l v w B out us os hv ho hap hau (by omega) hB
    · have H := Lib.hid (mts_more (d := d) (l := l) h1)
      obtain ⟨A, c, rfl, _, _⟩ := hv.slice
      obtain ⟨Ao, co, rfl, _, _⟩ := ho.form
      obtain ⟨k, hk⟩ : ∃ k, k = l.length := ⟨_, rfl⟩
      have Hk := Lib.hid hk
      have hb1 : ((n : Int) == 1) = false := by simp; omega
      have Hv := Lib.hid hv
      have Ho := Lib.hid ho
      have Hap := Lib.hid hap
      have Hd := Lib.hid hl
      have Hos : Hid (os.length + 8 * mtsB d ≤ 600000) := hlen
      clear hv ho hap hau hlen hl
      rw [← hk] at Hv Hap ⊢
      have hk5 : k < 5 := by have := Hd.out; omega
      clear hk
      have hkb : ((k : Int) == 5) = false := by simp; omega
      go_enter Try.func43, Try.ntmps43
      go_wp2_with fail
      go_loopw [2, 7] (fun o i wr => ∃ x : Nat, 2 ≤ x ∧ x ≤ 8 ∧ i = .int .i64 x ∧ Hid (MO B (.slice Ao us.length co) (os ++ mtsUp (mts d) n l x) w (.returned o) wr)) (fun _ i _ => 8 - (intOf i).toNat)
      case atStart => exact ⟨2, by omega, by omega, rfl, by unfold Hid; rw [mtsUp_two, List.append_nil]; exact ⟨_, us, rfl, Ho.out, World.grownBy.refl _ _, fun k hk => .inl hk⟩⟩
      case round =>
        obtain ⟨x, hx2, hx8, rfl, hr⟩ := hrel
        obtain ⟨o', us', e', hL, hg, hat⟩ := hr.out
        obtain ⟨Ar, cr, hf, _, _⟩ := hL.form
        subst hf
        cases e'
        have HL := Lib.hid hL
        have Hg := Lib.hid hg
        have Hat := Lib.hid hat
        clear hL hg hat
        by_cases hx7 : x ≤ 7
        · obtain ⟨m, hm⟩ : ∃ m, m = n % x := ⟨_, rfl⟩
          have hxi : (2 : Int) ≤ (x : Int) := by omega
          by_cases hm0 : m = 0
          · rw [hm0] at hm
            have Hn := Lib.hid (mtsUp_t (f := mts d) (l := l) hx2 hm.symm)
            obtain ⟨q, hq⟩ : ∃ q, q = n / x := ⟨_, rfl⟩
            have hqb := mts_div hn1 hn24 hx2 hm.symm
            rw [← hq] at hqb
            obtain ⟨hq1, hq24⟩ := hqb
            have Hq := Lib.hid hq
            have Hlen : Hid ((os ++ mtsUp (mts d) n l x).length + mtsB d ≤ 600000) := by
              unfold Hid
              have h1 := mtsUp_len (mts_len d) n l x
              have h3 := Nat.mul_le_mul_right (mtsB d) hx7
              have h4 := Hos.out
              rw [List.length_append]
              omega
            have Hvr : Hid (Own wr B (.slice A k c) l) := Hv.out.kept Hg.out Hap.out
            have hBr : B ≤ wr.heap.size := Nat.le_trans hB Hg.out.size
            have Y1 : Hid (Ext wr ((wr.alloc (.cells #[.int .i64 x] 3)).alloc (.cells #[] 3)).drew) := Ext.tr (one_box wr _) (Ext.allocD _ _)
            have Y2 : Hid (Ext wr ((wr.alloc (.cells #[] 3)).alloc (.cells #[.int .i64 x] 3)).drew) := Ext.tr (one_box wr _) (Ext.allocD _ _)
            have Y3 : Hid (Ext wr (wr.alloc (.cells #[] 3)).drew) := Ext.allocD _ _
            have e1 : Hid (Own ((wr.alloc (.cells #[.int .i64 x] 3)).alloc (.cells #[] 3)).drew wr.heap.size (.slice (some ⟨wr.heap.size + 1, 0, none⟩) 0 0) []) := by
              have := Own.empty (w := wr.alloc (.cells #[.int .i64 x] 3)) (B := wr.heap.size) (by simp)
              simp only [World.size_alloc] at this
              exact this
            have e2 : Hid (Own ((wr.alloc (.cells #[] 3)).alloc (.cells #[.int .i64 x] 3)).drew wr.heap.size (.slice (some ⟨wr.heap.size, 0, none⟩) 0 0) []) := (Own.empty (Nat.le_refl _)).alloc _
            have e3 : Hid (Own (wr.alloc (.cells #[] 3)).drew wr.heap.size (.slice (some ⟨wr.heap.size, 0, none⟩) 0 0) []) := Own.empty (Nat.le_refl _)
            have c1 : Hid (((wr.alloc (.cells #[.int .i64 x] 3)).alloc (.cells #[] 3)).drew.cell? ⟨wr.heap.size, 0, none⟩ = some (.int .i64 x)) := (one_box (wr.alloc (.cells #[.int .i64 x] 3)) (.cells #[] 3)).cell_of (cell_new0 wr (.int .i64 x) 3)
            have c2 : Hid (((wr.alloc (.cells #[] 3)).alloc (.cells #[.int .i64 x] 3)).drew.cell? ⟨wr.heap.size + 1, 0, none⟩ = some (.int .i64 x)) := by
              have := cell_new0 (wr.alloc (.cells #[] 3)) (.int .i64 x) 3
              simp only [World.size_alloc] at this
              exact this
            have hmb : ((n : Int) % (x : Int) == 0) = true := by rw [← Int.natCast_emod, ← hm]; rfl
            have hdv : (n : Int) / (x : Int) = (q : Int) := by rw [← Int.natCast_ediv, ← hq]
            have hx0 : ¬ x = 0 := by omega
            have hqw2 : IntKind.i64.wrap (q : Int) = (q : Int) := IntWalk.i64_in _ (by omega)
            have ne1 : Hid ((some wr.heap.size : Option Nat) ≠ some (wr.heap.size + 1)) := by unfold Hid; simp
            have ne2 : Hid ((some (wr.heap.size + 1) : Option Nat) ≠ some wr.heap.size) := by unfold Hid; simp
            clear hm hq hm0
            go_wp2_with fail
            go_region_law (first
              | (refine step_appendL rfl (.tmp 29) (.tmp 30) rfl rfl rfl e1.out (Hvr.out.ext Y1.out).ints (by rw [List.length_nil]; have := Hk.out; omega) Y1.out.size ?_; intro v3 w3 ho3 hg3 hb3 hat3; rw [List.nil_append] at ho3; obtain ⟨A3, n3, c3, rfl⟩ := ho3.form; have hX3 : Hid (Ext wr w3) := Below.trans Y1.out hb3; have hcS : Hid (w3.cell? ⟨wr.heap.size, 0, none⟩ = some (.int .i64 x)) := hg3.cell c1.out ne1.out)
              | (refine step_appendL rfl (.tmp 29) (.tmp 30) rfl rfl rfl e2.out (Hvr.out.ext Y2.out).ints (by rw [List.length_nil]; have := Hk.out; omega) Y2.out.size ?_; intro v3 w3 ho3 hg3 hb3 hat3; rw [List.nil_append] at ho3; obtain ⟨A3, n3, c3, rfl⟩ := ho3.form; have hX3 : Hid (Ext wr w3) := Below.trans Y2.out hb3; have hcS : Hid (w3.cell? ⟨wr.heap.size + 1, 0, none⟩ = some (.int .i64 x)) := hg3.cell c2.out ne2.out)
              | (refine step_appendL rfl (.tmp 29) (.tmp 30) rfl rfl rfl e3.out (Hvr.out.ext Y3.out).ints (by rw [List.length_nil]; have := Hk.out; omega) Y3.out.size ?_; intro v3 w3 ho3 hg3 hb3 hat3; rw [List.nil_append] at ho3; obtain ⟨A3, n3, c3, rfl⟩ := ho3.form; have hX3 : Hid (Ext wr w3) := Below.trans Y3.out hb3)
              | (refine step_append1 rfl (.tmp 31) (.tmp 33) rfl rfl rfl ho3 hcS.out (by unfold I64; omega) (by have := Hk.out; omega) hX3.out.size ?_; intro v4 w4 ho4 hg4 hb4 hat4; obtain ⟨A4, n4, c4, rfl⟩ := ho4.form; have hX4 : Hid (Ext wr w4) := Below.trans hX3.out hb4)
              | (refine step_append1 rfl (.tmp 31) (.tmp 33) rfl rfl rfl (ho3.alloc (.cells #[.int .i64 x] 3)) (cell_new0 w3 (.int .i64 x) 3) (by unfold I64; omega) (by have := Hk.out; omega) (Ext.tr hX3.out (one_box w3 _)).size ?_; intro v4 w4 ho4 hg4 hb4 hat4; obtain ⟨A4, n4, c4, rfl⟩ := ho4.form; have hX4 : Hid (Ext wr w4) := Below.trans (Ext.tr hX3.out (one_box w3 _)) hb4)
              | (go_simp; go_at_call 43; refine (ih q (l ++ [(x : Int)]) _ _ B _ us' _ (ho4.base hBr) (HL.out.ext hX4.out) (Apart.baseL ho4 fun k hk => (HL.out.1.lt k hk).2) (fun u hu => by obtain ⟨m, hm⟩ := HL.out.mem hu; exact Apart.symmL ho4 fun k hk => (hm.lt k hk).2) Hlen.out (Nat.le_trans hBr hX4.out.size) (by have := Hk.out; have := Hd.out; simp only [List.length_append, List.length_singleton]; omega) hq1 hq24).mono ?_; rintro e w5 ⟨v5, us5, rfl, hL5, hg5, hat5⟩; obtain ⟨A5, c5, rfl, _, _⟩ := hL5.form))
            all_goals
              go_wp2_with fail
              go_roundw
              case rel =>
                refine ⟨x + 1, by omega, by omega, by go_num, ?_⟩
                unfold Hid
                rw [Hn.out, ← Hq.out, ← List.append_assoc]
                refine ⟨_, us5, rfl, hL5, (grownBy_tr Hg.out (grownBy_of_ext hX4.out _)).andThen hg5 fun j hj => (Hat.out j hj).symm, fun j hj => ?_⟩
                rcases hat5 j hj with h | h
                · exact Hat.out j h
                · exact .inr (Nat.le_trans (Nat.le_trans Hg.out.size hX4.out.size) h)
              case measure => simp [intOf]; omega
          · have Hn := Lib.hid (mtsUp_f (f := mts d) (n := n) (l := l) (x := x) (by rw [← hm]; exact hm0))
            have hmb : ((n : Int) % (x : Int) == 0) = false := by rw [← Int.natCast_emod, ← hm]; simp; omega
            clear hm
            go_wp2_with fail
            go_roundw
            case rel => exact ⟨x + 1, by omega, by omega, by go_num, by unfold Hid; rw [Hn.out]; exact hr.out⟩
            case measure => simp [intOf]; omega
        · obtain rfl : x = 8 := by omega
          go_wp2_with fail
          go_ret
          exact ⟨_, us', rfl, by rw [H.out]; exact HL.out, Hg.out, Hat.out⟩
end Go.Proofs.Ytblkddjljncggaa
