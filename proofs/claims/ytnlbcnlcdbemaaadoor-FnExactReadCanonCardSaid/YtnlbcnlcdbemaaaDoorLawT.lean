/- Contracts of the laws' own helpers on slices of strings: markText, eqStringS, markStringS, heldStringS. -/
import Derived.Test.YtnlbcnlcdbemaaaDoorSss
import Derived.Test.YtnlbcnlcdbemaaaDoorByt
import Derived.Test.YtnlbcnlcdbemaaaDoorLaw
import Derived.Test.YtnlbcnlcdbemaaaDoorCan
namespace Go.Proofs.YtnlbcnlcdbemaaaDoor
open Go.RowKit
theorem CVar.keptB {w1 w2 : World} {B b : Nat} {n m : Int} {v u : Value} (h : CVar w1 b n v m u) (hlt : b < B) (hb : Below B w1 w2) : CVar w2 b n v m u := by
  obtain ⟨T, h⟩ := h
  exact ⟨T, by rw [hb.block b hlt]; exact h⟩
theorem Ext.markT {w a b : World} {B : Nat} (h : Ext w a) (hb : Below B a b) (hB : w.heap.size ≤ B) : Ext w b := h.trans (hb.mono hB)
theorem Own.keptT {w0 w1 w2 : World} {B0 B : Nat} {v : Value} {l l0 : List Int} (h : Own w1 B v l) (h0 : Own w0 B0 v l0) (hb : Below w0.heap.size w1 w2) : Own w2 B v l := by
  refine ⟨⟨h.1.1, ?_⟩, h.2⟩
  rcases h.1.2 with hn | ⟨g, cap, cur, rfl, hB, hgg, rest⟩
  · exact .inl hn
  · exact .inr ⟨g, cap, cur, rfl, hB, by rw [hb.block g (h0.lt g rfl).2]; exact hgg, rest⟩
theorem apart_so1 {w1 w2 : World} {B : Nat} {v0 vg : Value} {l0 : List Int} {us : List Value} {ss : List ByteArray} (h0 : Own w1 B v0 l0) (hg : Sss w2 w1.heap.size vg us ss) : v0.ownBlock = none ∨ v0.ownBlock ≠ vg.ownBlock := by
  cases e : v0.ownBlock with
  | none => exact .inl rfl
  | some k => right; intro e'; have h1 := (h0.lt k e).2; have h2 := (hg.lt k e'.symm).1; omega
theorem apart_so2 {w1 w2 : World} {B : Nat} {v vg : Value} {l : List Int} {us : List Value} {ss : List ByteArray} (h0 : Sss w1 B vg us ss) (ha : Own w2 w1.heap.size v l) : v.ownBlock = none ∨ v.ownBlock ≠ vg.ownBlock := by
  cases e : v.ownBlock with
  | none => exact .inl rfl
  | some k => right; intro e'; have h1 := (h0.lt k e'.symm).2; have h2 := (ha.lt k e).1; omega
theorem ne_s1 {w : World} {B b : Nat} {v : Value} {us : List Value} {ss : List ByteArray} (h : Sss w B v us ss) (hb : w.heap.size ≤ b) : v.ownBlock ≠ some b := fun e => by have := (h.lt b e).2; omega
theorem ne_s2 {w : World} {B b : Nat} {v : Value} {us : List Value} {ss : List ByteArray} (h : Sss w B v us ss) (hb : b < B) : v.ownBlock ≠ some b := fun e => by have := (h.lt b e).1; omega
theorem ext_ofDT {w w' : World} (h : Ext w.drew w') : Ext w w' := ⟨h.os, h.tape, h.output, h.size, h.block⟩
theorem bytes_eq {a b : ByteArray} (h : a = b) : (a.toList == b.toList) = true := by subst h; exact beq_self_eq_true _
theorem bytes_ne {a b : ByteArray} (h : ¬ a = b) : (a.toList == b.toList) = false := by
  rw [beq_eq_false_iff_ne]
  intro e
  rw [ByteArray.toList_eq, ByteArray.toList_eq] at e
  exact h (ByteArray.ext (Array.ext' e))
/-- the digits of a number -/
def mtD : Nat → Nat → List Int
  | 0, _ => []
  | f + 1, k => if k = 0 then [] else mtD f (k / 10) ++ [48 + ((k % 10 : Nat) : Int)]
theorem mtD_zero (f : Nat) : mtD f 0 = [] := by cases f <;> simp [mtD]
def mtS (k : Nat) : ByteArray := strOfNums [109] ++ strOfNums (mtD 20 k)
theorem lit_string (w : World) (x : Int) : ∀ dst, Tryd.prog.underlying dst = some .string → (convert 53 dst (.slice (some ⟨w.heap.size, 0, none⟩) 1 1)).run Tryd.prog (w.alloc (.cells #[.int .u8 x] 5)) = .ok (.string (strOfNums [x])) (w.alloc (.cells #[.int .u8 x] 5)) := by
  refine run_convert_bytes_arg _ _ _ Tryd.underlying53 Tryd.underlying5 w.heap.size 0 1 1 [x] rfl fun i hi => ?_
  have h0 : i = 0 := by omega
  subst h0
  exact cell_new0 w _ _
set_option maxRecDepth 100000 in
set_option maxHeartbeats 1100000 in
theorem markText_c (k : Nat) (w : World) (h1 : 1 ≤ k) (hk : k ≤ 1099511627776) : Calls Tryd.prog 20 #[.int .i64 k] w (fun e w' => e = .returned (.string (mtS k)) ∧ Ext w w') := by
  have hle : ¬ (k : Int) ≤ 0 := by omega
  have h109 : (⟨#[109]⟩ : ByteArray) = strOfNums [109] := rfl
  have H109 := Lib.hid h109
  clear h109
  go_enter Tryd.func20, Tryd.ntmps20
  go_wp2
  go_loopw [0, 3] (fun kk o wr => ∃ (z f : Nat) (acc : List Int), z ≤ 1099511627776 ∧ f ≤ 20 ∧ acc.length = 20 - f ∧ kk = .int .i64 z ∧ o = .string (strOfNums acc) ∧ Hid (z < 10 ^ f ∧ mtD f z ++ acc = mtD 20 k ∧ Ext w wr)) (fun kk _ _ => (intOf kk).toNat)
  case atStart => exact ⟨k, 20, [], hk, Nat.le_refl _, rfl, rfl, rfl, by omega, by simp, Below.refl _ _⟩
  case round =>
    obtain ⟨z, f, acc, hz, hf, hacc, rfl, rfl, hr⟩ := hrel
    have hsz : (strOfNums acc).size ≤ 20 := by rw [strOfNums_size]; omega
    by_cases hz0 : 0 < z
    · have hf0 : f ≠ 0 := fun e => by have := hr.out.1; rw [e] at this; omega
      obtain ⟨f, rfl⟩ : ∃ f', f = f' + 1 := ⟨f - 1, by omega⟩
      have hzi : (0 : Int) < (z : Int) := by omega
      have hmod : (z : Int) % 10 = ((z % 10 : Nat) : Int) := by omega
      have hdiv : (z : Int) / 10 = ((z / 10 : Nat) : Int) := by omega
      have hm9 : z % 10 ≤ 9 := by omega
      obtain ⟨d, hd⟩ : ∃ d, d = z % 10 := ⟨_, rfl⟩
      obtain ⟨y, hy⟩ : ∃ y, y = z / 10 := ⟨_, rfl⟩
      have hyz : y < z := by omega
      have Hn : Hid (y < 10 ^ f ∧ mtD f y ++ ([48 + (d : Int)] ++ acc) = mtD 20 k) := by
        obtain ⟨h2, h3, _⟩ := hr.out
        rw [mtD, if_neg (by omega)] at h3
        refine ⟨?_, ?_⟩
        · rw [Nat.pow_succ] at h2; omega
        · rw [← h3, hd, hy]; simp
      rw [← hd] at hmod hm9
      rw [← hy] at hdiv
      clear hd hy
      have hconv := lit_string wr (48 + (d : Int))
      have hs1 : (strOfNums [48 + (d : Int)]).size = 1 := by rw [strOfNums_size]; rfl
      go_wp2
      go_roundw
      case rel => exact ⟨y, f, [48 + (d : Int)] ++ acc, by omega, by omega, by simp; omega, by go_num, by rw [strOfNums_app], Hn.out.1, Hn.out.2, hr.out.2.2.tr (one_box wr _)⟩
      case measure => simp [intOf]; omega
    · have hz1 : z = 0 := by omega
      have hzi : ¬ (0 : Int) < (z : Int) := by omega
      have Hs : Hid (strOfNums [109] ++ strOfNums acc = mtS k) := by
        have h3 := hr.out.2.1
        rw [hz1, mtD_zero, List.nil_append] at h3
        unfold mtS Hid
        rw [h3]
      clear hz1
      go_wp2
      go_ret
      exact ⟨by rw [← Hs.out, ← H109.out]; rfl, hr.out.2.2⟩
def mkS (k : Nat) (ss : List ByteArray) : List ByteArray := (List.range ss.length).map fun j => mtS (k + j)
theorem mkS_len (k : Nat) (ss : List ByteArray) : (mkS k ss).length = ss.length := by simp [mkS]
theorem mkS_get {k j : Nat} {ss : List ByteArray} (h : j < ss.length) : (mkS k ss)[j]? = some (mtS (k + j)) := by simp [mkS, h]
theorem mkS_set {k j : Nat} {ss : List ByteArray} (h : j < ss.length) : ((mkS k ss).take j ++ ss.drop j).set j (mtS (k + j)) = (mkS k ss).take (j + 1) ++ ss.drop (j + 1) := by
  have hl : ((mkS k ss).take j).length = j := by rw [List.length_take, mkS_len]; omega
  rw [List.set_append_right _ _ (by omega), hl, Nat.sub_self, List.drop_eq_getElem_cons h, List.set_cons_zero, takeT (mkS_get h), List.append_assoc]
  rfl
theorem mkS_cur {k j : Nat} {ss : List ByteArray} (h : j < ss.length) : ((mkS k ss).take j ++ ss.drop j)[j]? = ss[j]? := by
  have hl : ((mkS k ss).take j).length = j := by rw [List.length_take, mkS_len]; omega
  rw [List.getElem?_append_right (by omega), hl, Nat.sub_self, List.getElem?_drop, Nat.add_zero]
set_option maxRecDepth 100000 in
set_option maxHeartbeats 1100000 in
theorem eqStringS_c (rs rs' : List ByteArray) (us us' : List Value) (v v' : Value) (B B' : Nat) (w : World) (h : Sss w B v us rs) (h' : Sss w B' v' us' rs') (hlen : rs.length ≤ 1100000) : Calls Tryd.prog 9 #[v, v'] w (RB (rs = rs') w) := by
  obtain ⟨A, c, hv, hn, hm⟩ := h.form
  obtain ⟨A', c', hv', hn', hm'⟩ := h'.form
  have HR := Lib.hid h
  have HR' := Lib.hid h'
  obtain ⟨q, hq⟩ : ∃ q, q = us.length := ⟨_, rfl⟩
  obtain ⟨q', hq'⟩ : ∃ q, q = us'.length := ⟨_, rfl⟩
  rw [← hq] at hv hn
  rw [← hq'] at hv' hn'
  have hql : q = rs.length := by rw [hq, h.len]
  have hql' : q' = rs'.length := by rw [hq', h'.len]
  have hq6 : q ≤ 1100000 := by omega
  unfold maxLen at hm hm'
  have hq6' : q' ≤ 9223372036854775807 := by omega
  have Hq := Lib.hid hq
  have Hq' := Lib.hid hq'
  have Hql := Lib.hid hql
  have Hql' := Lib.hid hql'
  subst hv
  subst hv'
  clear h h' hq hq' hm hm' hql hql' hlen
  by_cases hqq : q = q'
  · subst hqq
    have hb : ((q : Int) != (q : Int)) = false := by simp
    go_enter Tryd.func9, Tryd.ntmps9
    go_wp2
    go_loopw [5] (fun i wr => ∃ j : Nat, j ≤ q ∧ i = .int .i64 j ∧ Hid (rs.take j = rs'.take j ∧ Ext w wr)) (fun i _ => q - (intOf i).toNat)
    case atStart => exact ⟨0, Nat.zero_le _, rfl, rfl, Below.refl _ _⟩
    case round =>
      obtain ⟨j, hj, rfl, hr⟩ := hrel
      by_cases hjq : j < q
      · obtain ⟨g, cc, he, _⟩ := HR.out.shape (by rw [← Hq.out]; omega)
        obtain ⟨rfl, rfl⟩ : A = some ⟨g, 0, none⟩ ∧ c = cc := by simp only [Value.slice.injEq] at he; exact ⟨he.1, he.2.2⟩
        obtain ⟨g', cc', he', _⟩ := HR'.out.shape (by rw [← Hq'.out]; omega)
        obtain ⟨rfl, rfl⟩ : A' = some ⟨g', 0, none⟩ ∧ c' = cc' := by simp only [Value.slice.injEq] at he'; exact ⟨he'.1, he'.2.2⟩
        obtain ⟨x, hx⟩ : ∃ x, rs[j]? = some x := ⟨_, List.getElem?_eq_getElem (by rw [← Hql.out]; exact hjq)⟩
        obtain ⟨y, hy⟩ : ∃ y, rs'[j]? = some y := ⟨_, List.getElem?_eq_getElem (by rw [← Hql'.out]; exact hjq)⟩
        have hcx := hr.out.2.cell_of (HR.out.cell hx)
        have hcy := hr.out.2.cell_of (HR'.out.cell hy)
        have hjq2 : (j : Int) < (q : Int) := by omega
        have Hx := Lib.hid hx
        have Hy := Lib.hid hy
        clear hx hy he he'
        by_cases hxy : x = y
        · have Hn : Hid (rs.take (j + 1) = rs'.take (j + 1)) := by unfold Hid; rw [takeT Hx.out, takeT Hy.out, hr.out.1, hxy]
          subst hxy
          have hb2 : (x.toList == x.toList) = true := bytes_eq rfl
          go_wp2
          go_quiet (fail)
          go_wp2
          go_roundw
          case rel => exact ⟨j + 1, by omega, by go_num, Hn.out, ⟨hr.out.2.os, hr.out.2.tape, hr.out.2.output, hr.out.2.size, hr.out.2.block⟩⟩
          case measure => simp [intOf]; omega
        · have Hf : Hid (¬ rs = rs') := fun e => hxy (by have := Hx.out; rw [e, Hy.out] at this; cases this; rfl)
          have hb2 : (x.toList == y.toList) = false := bytes_ne hxy
          clear hxy
          go_wp2
          go_quiet (fail)
          go_wp2
          go_ret
          exact RB.f Hf.out ⟨hr.out.2.os, hr.out.2.tape, hr.out.2.output, hr.out.2.size, hr.out.2.block⟩
      · obtain rfl : j = q := by omega
        go_wp2
        go_ret
        have h1 := hr.out.1
        rw [List.take_of_length_le (by rw [← Hql.out]; exact Nat.le_refl _), List.take_of_length_le (by rw [← Hql'.out]; exact Nat.le_refl _)] at h1
        exact RB.t h1 hr.out.2
  · have hb : ((q : Int) != (q' : Int)) = true := by rw [bne_iff_ne]; omega
    have Hf : Hid (¬ rs = rs') := fun e => hqq (by rw [Hql.out, Hql'.out, e])
    go_enter Tryd.func9, Tryd.ntmps9
    go_wp2
    go_ret
    exact RB.f Hf.out (Below.refl _ _)
def MarkPostT (rs : List ByteArray) (k B : Nat) (v : Value) (w : World) (e : Ending) (w' : World) : Prop :=
  ∃ (z : Nat) (us' : List Value), e = .returned (.int .i64 z) ∧ Hid (z = k + rs.length) ∧ z ≤ 1099511627776 ∧ Sss w' B v us' (mkS k rs) ∧ Below B w w' ∧ w.grownBy w' v.ownBlock
set_option maxRecDepth 100000 in
set_option maxHeartbeats 1100000 in
theorem markStringS_c (rs : List ByteArray) (k : Nat) (us : List Value) (v : Value) (B : Nat) (w : World) (h : Sss w B v us rs) (hlen : rs.length ≤ 1100000) (hk1 : 1 ≤ k) (hk : k ≤ 1100000) :
    Calls Tryd.prog 10 #[v, .int .i64 k] w (MarkPostT rs k B v w) := by
  obtain ⟨A, c, hv, hn, hm⟩ := h.form
  have HR := Lib.hid h
  obtain ⟨q, hq⟩ : ∃ q, q = us.length := ⟨_, rfl⟩
  rw [← hq] at hv hn
  have hql : q = rs.length := by rw [hq, h.len]
  have hq6 : q ≤ 1100000 := by omega
  have Hq := Lib.hid hq
  have Hql := Lib.hid hql
  subst hv
  clear h hq hm hql hlen
  go_enter Tryd.func10, Tryd.ntmps10
  go_wp2
  go_loopw [1, 5] (fun kk i wr => ∃ (j : Nat) (us' : List Value), j ≤ q ∧ i = .int .i64 j ∧ kk = .int .i64 ((k + j : Nat) : Int) ∧ Hid (Sss wr B (.slice A q c) us' ((mkS k rs).take j ++ rs.drop j) ∧ Below B w wr ∧ w.grownBy wr (Value.slice A q c).ownBlock)) (fun _ i _ => q - (intOf i).toNat)
  case atStart => exact ⟨0, us, Nat.zero_le _, rfl, rfl, by simpa using HR.out, Below.refl _ _, grownBy_of_ext (Below.refl _ _) _⟩
  case round =>
    obtain ⟨j, us', hj, rfl, rfl, hr⟩ := hrel
    by_cases hjq : j < q
    · have hjr : j < rs.length := by rw [← Hql.out]; exact hjq
      have hlu : us'.length = q := by obtain ⟨A', c', hv, _⟩ := hr.out.1.form; simp only [Value.slice.injEq] at hv; exact hv.2.1.symm
      obtain ⟨g, cc, he, hBg, hgs, _⟩ := hr.out.1.shape (by omega)
      obtain ⟨rfl, rfl⟩ : A = some ⟨g, 0, none⟩ ∧ c = cc := by simp only [Value.slice.injEq] at he; exact ⟨he.1, he.2.2⟩
      have hjq2 : (j : Int) < (q : Int) := by omega
      obtain ⟨x, hx⟩ : ∃ x, rs[j]? = some x := ⟨_, List.getElem?_eq_getElem hjr⟩
      have Hx : Hid (((mkS k rs).take j ++ rs.drop j)[j]? = some x) := by unfold Hid; rw [mkS_cur hjr]; exact hx
      have Hset := Lib.hid (mkS_set (k := k) hjr)
      obtain ⟨z, hz⟩ : ∃ z, z = k + j := ⟨_, rfl⟩
      have hz2 : 1 ≤ z ∧ z ≤ 2400000 := by omega
      have Hz := Lib.hid hz
      rw [← hz] at Hset
      rw [← hz]
      clear hx he hlu hjr hz
      have tok : True := trivial
      go_wp2_with (first | (go_at_call 20; clear tok; refine (markText_c z _ (by omega) (by omega)).mono ?_; rintro e w2 ⟨rfl, hx2⟩; (have S2 := Lib.hid (hr.out.1.ext hx2); have hcx := S2.out.cell Hx.out; have hfx := S2.out.free j; have St := Lib.hid (S2.out.stored (k := j) (mtS z)))))
      go_roundw
      case rel =>
        have h9 := St.out.1
        rw [Hset.out] at h9
        exact ⟨j + 1, _, by omega, by go_num, by rw [Hz.out]; go_num, h9, (hr.out.2.1.trans (hx2.mono (by omega))).grown St.out.2 (by have := hr.out.2.1.size; have := hx2.size; omega) (fun b hb => by cases hb; exact hBg), grownBy_tr (grownBy_tr hr.out.2.2 (grownBy_of_ext hx2 _)) St.out.2⟩
      case measure => simp [intOf]; omega
    · obtain rfl : j = q := by omega
      go_wp2
      go_ret
      obtain ⟨h1, h4, h5⟩ := hr.out
      rw [List.take_of_length_le (by rw [mkS_len, ← Hql.out]; exact Nat.le_refl _), List.drop_of_length_le (by rw [← Hql.out]; exact Nat.le_refl _), List.append_nil] at h1
      exact ⟨k + j, us', rfl, by unfold Hid; rw [← Hql.out], by omega, h1, h4, h5⟩
end Go.Proofs.YtnlbcnlcdbemaaaDoor
