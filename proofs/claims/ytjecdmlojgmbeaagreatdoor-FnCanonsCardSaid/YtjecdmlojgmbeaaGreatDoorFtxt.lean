/- Contracts: bytes.Repeat of one byte, at most 24 times; the text of a rhythm: (Rhythm).text, FormatRhythm. -/
import Derived.Lib.SlBuf
import Derived.Lib.SlBytesConst
import Derived.Lib.MakeNoZero
import Derived.Test.YtjecdmlojgmbeaaGreatDoorShelf
import Derived.Test.YtjecdmlojgmbeaaGreatDoorByt
import Derived.Test.YtjecdmlojgmbeaaGreatDoorFmap
import Derived.Test.YtjecdmlojgmbeaaGreatDoorFhas
import Derived.Test.YtjecdmlojgmbeaaGreatDoorFrok
import Derived.Deep.RegionLaw
namespace Go.Proofs.YtjecdmlojgmbeaaGreatDoor
open Go.RowKit
theorem takeT' {α : Type} {l : List α} {k : Nat} {x : α} (hx : l[k]? = some x) : l.take (k + 1) = l.take k ++ [x] := by
  rw [List.take_add_one, hx]; rfl
theorem Tryz.sizeByte : ∀ w : World, (Go.sizeOf 5).run Tryz.prog w = .ok 1 w := fun w => by kernel_rfl
/-- copy(b[bp:], b[:bp]) where the first bp bytes of b are all one byte -/
theorem copy_self (w0 wr : World) (h N bp : Nat) (x : UInt8) (ty : TypeId) (hb : Lib.Buf w0 wr h N (List.replicate bp x)) (h1 : 1 ≤ bp) (hlt : bp < N) :
    ∃ wr', (Builtin.copy_ #[22, 22] ty #[Lib.tailV h N bp, .slice (some ⟨h, 0, none⟩) bp N]).run Tryz.prog wr = .ok (.int .i64 ((Nat.min bp (N - bp) : Nat) : Int)) wr' ∧ Lib.Buf w0 wr' h N (List.replicate (bp + Nat.min bp (N - bp)) x) := by
  obtain ⟨i0, hi, hz0, hz1, hz2⟩ := info_parts Tryz.infoByte
  obtain ⟨m, hm⟩ : ∃ m, m = Nat.min bp (N - bp) := ⟨_, rfl⟩
  have hm1 : m ≤ bp := by rw [hm]; exact Nat.min_le_left _ _
  have hm2 : m ≤ N - bp := by rw [hm]; exact Nat.min_le_right _ _
  have hne : ¬ N = bp := by omega
  have hl : (List.replicate m (Value.int .u8 (x.toNat : Int))).length = m := List.length_replicate
  have hr := run_copy_cells (P := Tryz.prog) wr 22 22 ty 5 h bp (N - bp) (N - bp) ⟨h, 0, none⟩ bp N (List.replicate m (Value.int .u8 (x.toNat : Int))) Tryz.underlying22 (by rw [hi]; simp [hz1]) (by rw [hl, hm])
    (fun j u hj => by
      obtain ⟨hj1, hj2⟩ := List.getElem?_eq_some_iff.1 hj
      rw [hl] at hj1
      rw [List.getElem_replicate] at hj2
      subst hj2
      have := hb.holds j x (by rw [List.getElem?_replicate, if_pos (by omega)])
      rw [show (⟨h, 0, none⟩ : Addr).add j = ⟨h, j, none⟩ by unfold Addr.add; split <;> simp_all]
      exact this)
    (fun j hj => by rw [hl] at hj; exact hb.there _ (by omega)) (fun j hj => by rw [hl] at hj; exact hb.free _ (by omega))
    (fun u hu' => by rw [List.mem_replicate] at hu'; rw [hu'.2]; rfl)
  rw [hl] at hr
  rw [← hm]
  refine ⟨_, by unfold Lib.tailV; rw [if_neg hne]; exact hr, ?_⟩
  have hin := World.cell?_setCells_in h (List.replicate m (Value.int .u8 (x.toNat : Int))) bp wr (fun j hj => by rw [hl] at hj; exact hb.there _ (by omega))
  have hout := World.cell?_setCells_out h (List.replicate m (Value.int .u8 (x.toNat : Int))) bp wr
  refine ⟨Lib.below_setCells h (Nat.le_refl _) _ _ hb.below, ?_, ?_, ?_, by rw [List.length_replicate]; omega⟩
  · intro j hj
    by_cases h1 : bp ≤ j ∧ j < bp + m
    · obtain ⟨d, rfl⟩ : ∃ d, j = bp + d := ⟨j - bp, by omega⟩
      rw [hin d (by rw [hl]; omega)]
      rfl
    · rw [hout ⟨h, j, none⟩ (fun _ _ => by rw [hl]; show j < _ ∨ _ ≤ j; omega)]
      exact hb.there j hj
  · intro j hj
    rw [World.frozen?_setCells]
    exact hb.free j hj
  · intro j y hy
    rw [List.getElem?_replicate] at hy
    split at hy
    · cases hy
      by_cases h1 : j < bp
      · rw [hout ⟨h, j, none⟩ (fun _ _ => Or.inl h1)]
        exact hb.holds j x (by rw [List.getElem?_replicate, if_pos h1])
      · obtain ⟨d, rfl⟩ : ∃ d, j = bp + d := ⟨j - bp, by omega⟩
        rw [hin d (by rw [hl]; omega)]
        simp
    · cases hy
/-- The block h, made behind the world w0, bears the bytes l at its front, none of them marked. -/
structure TBuf (w0 wr : World) (h : Nat) (l : List Int) : Prop where
  below : Below h w0 wr
  holds : ∀ (j : Nat) x, l[j]? = some x → wr.cell? ⟨h, j, none⟩ = some (.int .u8 x)
  free : ∀ j, j < l.length → wr.frozen? ⟨h, j, none⟩ = false
theorem TBuf.ofBuf {w0 wr : World} {h N : Nat} {x : UInt8} (hb : Lib.Buf w0 wr h N (List.replicate N x)) : TBuf w0 wr h (List.replicate N (x.toNat : Int)) where
  below := hb.below
  holds := fun j y hy => by
    rw [List.getElem?_replicate] at hy
    split at hy
    · rename_i hj
      cases hy
      exact hb.holds j x (by rw [List.getElem?_replicate, if_pos hj])
    · cases hy
  free := fun j hj => hb.free j (by simpa using hj)
theorem TBuf.stored {w0 wr : World} {h : Nat} {l : List Int} (hb : TBuf w0 wr h l) {k : Nat} (x : Int) (hk : k < l.length) (hw : w0.heap.size ≤ h) : TBuf w0 (wr.setCell ⟨h, k, none⟩ (.int .u8 x)) h (l.set k x) := by
  have hc := hb.holds k l[k] (List.getElem?_eq_getElem hk)
  refine ⟨hb.below.setCell (Nat.le_refl _) _, ?_, ?_⟩
  · intro j y hy
    by_cases e : j = k
    · subst e
      rw [List.getElem?_set_self hk] at hy
      cases hy
      exact World.cell?_setCell_same _ _ _ hc
    · rw [List.getElem?_set_ne (fun e' => e e'.symm)] at hy
      rw [World.cell?_setCell_other _ _ _ _ (fun e' => e (by cases e'; rfl))]
      exact hb.holds j y hy
  · intro j hj
    rw [World.frozen?_setCell]
    exact hb.free j (by simpa using hj)
theorem step_copy (w : World) {ops : Array Oper} {o : Oper} {a : Act} {K : Act → World → Prop} {Q : Exit → Act → World → Prop} {E : Prop} (hgd : o.guard = none) (d s : Operand) (t t' : TypeId)
    (ho : o.op = .call { callee := .builtin .copy, args := #[d, s], argTypes := #[t, t'] }) (v u : Value) (hd : a.eval d = v) (hs : a.eval s = u) {v' : Value} {w' : World}
    (hr : (Builtin.copy_ #[t, t'] o.type #[v, u]).run Tryz.prog w = .ok v' w') (h : K (a.put o.dst v') w') : if Region.wanted o (yielded ops a.tmps) = true then Oper.wp Tryz.prog o a w K Q else E := by
  have hw : Region.wanted o (yielded ops a.tmps) = true := by simp [Region.wanted, hgd]
  rw [if_pos hw]
  exact Lib.wp_copy_run w d s t t' ho v u hd hs hr h
set_option maxRecDepth 100000 in
set_option maxHeartbeats 2000000 in
theorem bytesRepeat_c (n : Nat) (hn : 1 ≤ n ∧ n ≤ 24) (x : UInt8) (A : Addr) (w : World) (hc : w.cell? A = some (.int .u8 (x.toNat : Int))) :
    Calls Tryz.prog 47 #[.slice (some A) 1 1, .int .i64 n] w (fun e w' => e = .returned (.slice (some ⟨w.heap.size, 0, none⟩) n n) ∧ TBuf w w' w.heap.size (List.replicate n (x.toNat : Int))) := by
  obtain ⟨i0, hi, hz0, hz1, hz2⟩ := info_parts Tryz.infoByte
  have hs5 : (Tryz.prog.info? 5).map (·.size) = some 1 := by rw [hi]; simp [hz1]
  obtain ⟨hn1, hn24⟩ := hn
  obtain ⟨cs, hrunM, hle, _⟩ := Lib.run_makeNoZero (P := Tryz.prog) w #[3] 22 5 Tryz.underlying22 n (by omega)
  have hcall : (callFunc 55 #[.int .i64 (n : Int)]).run Tryz.prog w = .ok (.value (.slice (some ⟨w.heap.size, 0, none⟩) n cs.size)) ((w.alloc (.cells cs 5)).drewN 2) := by
    rw [run_callFunc_extern Tryz.func55 (by kernel_rfl) (by kernel_rfl) (by kernel_rfl) (e := Extern.BytealgMakeNoZero.makeNoZero #[3] #[22]) (by kernel_rfl), hrunM]
    rfl
  clear hrunM hi hz0 hz1 hz2
  have i0 : (0 : Int) ≤ (n : Int) := by omega
  have i1 : (n : Int) ≤ (cs.size : Int) := by omega
  have in0 : ((n : Int) == 0) = false := beq_eq_false_iff_ne.2 (by omega)
  have e1 : 1 * n / 18446744073709551616 = 0 := by omega
  have e2 : 1 * n % 18446744073709551616 = n := by omega
  have B0 := Lib.Buf.start w cs 5 n 2 hle
  obtain ⟨w1, hr1, B1⟩ := Lib.copy_part (P := Tryz.prog) w _ w.heap.size n [] [x] (.slice (some A) 1 1) 22 3 5 Tryz.underlying22 hs5 (Nat.le_refl _) B0 ⟨some A, 1, rfl, (fun h => by cases h), fun a ha i y hy => by
    cases ha
    have h0 : i = 0 := by have := (List.getElem?_eq_some_iff.1 hy).1; simp at this; exact this
    subst h0
    simp at hy
    subst hy
    simpa [Addr.add] using hc⟩ (by simp; omega)
  rw [List.length_nil, Lib.tailV_zero] at hr1
  rw [List.nil_append, show [x] = List.replicate 1 x from rfl] at B1
  have HB1 := Lib.hid B1
  clear B1 B0 hc
  go_enter Tryz.func47, Tryz.ntmps47
  go_wp2_with (first | (go_at_call 54; refine (Tryz.bits_Mul 1 n (by omega) (by omega) _).mono ?_; rintro e wm ⟨he, hw⟩; obtain rfl : w = wm := hw.symm; rw [e1, e2] at he; subst he) | (at_builtin; refine Lib.wpList_copy_run _ rfl _ _ 22 22 rfl _ _ rfl rfl hr1 ?_))
  clear hcall hr1
  go_loopw [10] (fun b wr => ∃ bp : Nat, 1 ≤ bp ∧ bp ≤ n ∧ b = .int .i64 bp ∧ Hid (Lib.Buf w wr w.heap.size n (List.replicate bp x))) (fun b _ => n - (intOf b).toNat)
  case atStart => exact ⟨1, Nat.le_refl _, hn1, rfl, HB1.out⟩
  case round =>
    obtain ⟨bp, hb1, hbn, rfl, hr⟩ := hrel
    by_cases hlt : bp < n
    · have hlt2 : (bp : Int) < (n : Int) := by omega
      have hmin : ¬ (n : Int) < (bp : Int) := by omega
      have hbi : (1 : Int) ≤ (bp : Int) := by omega
      have hsl : ∀ W, (Instr.slice 22 (.slice (some ⟨w.heap.size, 0, none⟩) n n) (some (.int .i64 (bp : Int))) none none).run Tryz.prog W = .ok (Lib.tailV w.heap.size n bp) W := fun W => Lib.run_slice_tailV W 22 5 Tryz.underlying22 Tryz.sizeByte _ n bp hbn
      obtain ⟨m, hm⟩ : ∃ m, m = Nat.min bp (n - bp) := ⟨_, rfl⟩
      have hm1 : 1 ≤ m ∧ m ≤ n - bp := by
        constructor
        · rw [hm]; exact Nat.le_min.2 ⟨hb1, by omega⟩
        · rw [hm]; exact Nat.min_le_right _ _
      have hbD : Lib.Buf w wr.drew w.heap.size n (List.replicate bp x) := ⟨⟨hr.out.below.os, hr.out.below.tape, hr.out.below.output, hr.out.below.size, hr.out.below.block⟩, hr.out.there, hr.out.free, hr.out.holds, hr.out.fits⟩
      obtain ⟨w2, hr2, B2⟩ := copy_self w wr.drew w.heap.size n bp x 3 hbD hb1 hlt
      have hmn : min (bp : Int) (n : Int) = (bp : Int) := by omega
      rw [← hm] at hr2 B2
      have HB2 := Lib.hid B2
      clear B2 hm hbD
      have hwrap : IntKind.i64.wrap ((bp : Int) + (m : Int)) = (bp : Int) + (m : Int) := IntWalk.i64_in _ (by omega)
      go_wp2
      first
        | (go_region_law (first | fail))
        | fail
      all_goals
        go_simp
        go_roundw
        case rel => first | exact ⟨bp + m, by omega, by omega, by go_num, HB2.out⟩ | ((repeat apply Exists.intro); exact ⟨⟨bp + m, by omega, by omega, by go_num, HB2.out⟩, rfl⟩)
        case measure => simp [intOf]; omega
    · obtain rfl : bp = n := by omega
      go_wp2
      go_ret
      exact ⟨rfl, TBuf.ofBuf hr.out⟩
theorem TBuf.string {w0 wr : World} {h : Nat} {l : List Int} (hb : TBuf w0 wr h l) {n c : Nat} (hn : n = l.length) : ∀ dst, Tryz.prog.underlying dst = some .string → (convert 22 dst (.slice (some ⟨h, 0, none⟩) n c)).run Tryz.prog wr = .ok (.string (strOfNums l)) wr := by
  refine run_convert_bytes_arg wr _ _ Tryz.underlying22 Tryz.underlying5 h 0 n c l hn.symm fun i hi => ?_
  rw [Nat.zero_add]
  exact hb.holds i _ (get_of_lt (by omega))
/-- What a call leaves that hands back a string. -/
def RStr (s : ByteArray) (w : World) (e : Ending) (w' : World) : Prop := e = .returned (.string s) ∧ Ext w w'
/-- the text of a rhythm: x on each beat, else a point -/
def txU (n : Nat) (m : List Int) : List Int := (List.range n).map fun (p : Nat) => if (p : Int) ∈ m then 120 else 46
theorem txU_len (n : Nat) (m : List Int) : (txU n m).length = n := by simp [txU]
theorem txU_nil (n : Nat) : txU n [] = List.replicate n 46 := by
  unfold txU
  rw [List.eq_replicate_iff]
  exact ⟨by simp, fun b hb => by simp at hb; exact hb.2.symm⟩
theorem txU_get {n k : Nat} (m : List Int) (h : k < n) : (txU n m)[k]? = some (if (k : Int) ∈ m then 120 else 46) := by simp [txU, h]
theorem txU_set {n a : Nat} (m : List Int) (h : a < n) : (txU n m).set a 120 = txU n (m ++ [(a : Int)]) := by
  apply List.ext_getElem?
  intro k
  by_cases hk : k < n
  · by_cases e : a = k
    · subst e
      rw [List.getElem?_set_self (by rw [txU_len]; exact h), txU_get _ h, if_pos (by simp)]
    · rw [List.getElem?_set_ne e, txU_get _ hk, txU_get _ hk]
      have : ((k : Int) ∈ m ++ [(a : Int)]) ↔ ((k : Int) ∈ m) := by simp; omega
      simp only [this]
  · rw [List.getElem?_eq_none (by rw [List.length_set, txU_len]; omega), List.getElem?_eq_none (by rw [txU_len]; omega)]
theorem bytesDots_c (n : Nat) (hn : 1 ≤ n ∧ n ≤ 24) (A : Addr) (w : World) (hc : w.cell? A = some (.int .u8 46)) :
    Calls Tryz.prog 47 #[.slice (some A) 1 1, .int .i64 n] w (fun e w' => e = .returned (.slice (some ⟨w.heap.size, 0, none⟩) n n) ∧ TBuf w w' w.heap.size (txU n [])) := by
  rw [txU_nil]
  exact bytesRepeat_c n hn 46 A w hc
set_option maxRecDepth 100000 in
set_option maxHeartbeats 2000000 in
theorem text_c (n : Nat) (l : List Int) (v : Value) (w : World) (hv : Ints w v l) (hn : 1 ≤ n ∧ n ≤ 24) (hl : ∀ x ∈ l, 0 ≤ x ∧ x < n) (hlen : l.length ≤ n) : Calls Tryz.prog 33 #[.agg #[.int .i64 n, v]] w (RStr (strOfNums (txU n l)) w) := by
  obtain ⟨A, c, hve, _, _⟩ := hv.form0
  obtain ⟨m, hm⟩ : ∃ m, m = l.length := ⟨_, rfl⟩
  rw [← hm] at hve hlen
  subst hve
  obtain ⟨w1, hw1⟩ : ∃ w1, w1 = w.alloc (.cells #[.int .i64 (n : Int), .slice A m c] 25) := ⟨_, rfl⟩
  have hx : Ext w w1 := by rw [hw1]; exact one_box w _
  have hs1 : w1.heap.size = w.heap.size + 1 := by rw [hw1]; simp
  have hr : RVar w1 w.heap.size (n : Int) (.slice A m c) := by rw [hw1]; exact RVar.new (T := 25) w (n : Int) (.slice A m c)
  have hx2 := one_box w1 (.cells #[.int .u8 46] 5 (1, 2))
  have Hr := Lib.hid (hr.ext hx2)
  have hc0 := Hr.out.c0
  have hc1 := Hr.out.c1
  have hcell := cell_of_row (w1.alloc (.cells #[.int .u8 46] 5 (1, 2))) w1.heap.size 0 #[.int .u8 46] 5 (1, 2) (heap_alloc_new w1 _)
  have Hv := Lib.hid ((hv.ext hx).ext hx2)
  have Hx := Lib.hid (Ext.tr hx hx2)
  have Hl := Lib.hid hl
  have Hm := Lib.hid hm
  have Hn := Lib.hid hn
  have Hs1 := Lib.hid hs1
  obtain ⟨hn1, hn24⟩ := hn
  rw [hs1] at hcell
  rw [hw1] at hcell hc0 hc1
  have hsz : ((w.alloc (.cells #[.int .i64 (n : Int), .slice A m c] 25)).alloc (.cells #[.int .u8 46] 5 (1, 2))).heap.size = w.heap.size + 1 + 1 := by simp
  clear hv hx hr hl hm hx2 hs1
  have hcv := Lib.run_convert_bytes_const (P := Tryz.prog) (w.alloc (.cells #[.int .i64 (n : Int), .slice A m c] 25)) 22 5 #[.int .u8 46] 1 1 Tryz.underlying22 Tryz.underlying5
  simp only [World.size_alloc] at hcv
  go_enter Tryz.func33, Tryz.ntmps33
  go_wp2_with (first | (go_at_call 47; refine (bytesDots_c n Hn.out _ _ hcell).mono ?_; rintro e w3 ⟨he, hb3⟩; rw [hsz] at he hb3; subst he; rw [← hw1] at hb3; have hx3 : Hid (Ext (w1.alloc (.cells #[.int .u8 46] 5 (1, 2))) w3) := hb3.below.mono (by rw [hw1, hsz]; exact Nat.le_refl _); have hd0 := (Hr.out.ext hx3.out).c0; have hd1 := (Hr.out.ext hx3.out).c1))
  clear hc0 hc1 hcell hcv
  have hW : Hid ((w1.alloc (.cells #[.int .u8 46] 5 (1, 2))).heap.size ≤ w.heap.size + 1 + 1) := by unfold Hid; rw [hw1, hsz]; exact Nat.le_refl _
  have Hw1 := Lib.hid hw1
  clear hsz
  go_loopw [14] (fun i wr => ∃ k : Nat, k ≤ m ∧ i = .int .i64 k ∧ Hid (TBuf (w1.alloc (.cells #[.int .u8 46] 5 (1, 2))) wr (w.heap.size + 1 + 1) (txU n (l.take k)))) (fun i _ => m - (intOf i).toNat)
  case atStart => exact ⟨0, Nat.zero_le _, rfl, hb3⟩
  case round =>
    obtain ⟨k, hk, rfl, hb⟩ := hrel
    by_cases hkm : k < m
    · obtain ⟨ad, c', hA, _, _⟩ := Hv.out.form (by rw [← Hm.out]; omega)
      injection hA with eA eB eC
      subst eA
      clear eB eC
      obtain ⟨x, hx⟩ : ∃ x, l[k]? = some x := ⟨_, List.getElem?_eq_getElem (by rw [← Hm.out]; exact hkm)⟩
      have hxr := Hl.out x (List.mem_of_getElem? hx)
      obtain ⟨a, rfl⟩ : ∃ a : Nat, x = a := ⟨x.toNat, by omega⟩
      have han : a < n := by omega
      have hext : Ext (w1.alloc (.cells #[.int .u8 46] 5 (1, 2))) wr := hb.out.below.mono hW.out
      have hc := (Hv.out.ext hext).cell hx
      have hca := hb.out.holds a _ (txU_get _ han)
      have hfa := hb.out.free a (by rw [txU_len]; exact han)
      have hai : (0 : Int) ≤ (a : Int) ∧ (a : Int) < (n : Int) := by omega
      have hst := hb.out.stored (k := a) 120 (by rw [txU_len]; exact han) hW.out
      rw [txU_set _ han, ← takeT' hx] at hst
      have Hst := Lib.hid hst
      clear hst hx hext
      go_wp2
      go_roundw
      case rel => exact ⟨k + 1, by omega, by go_num, Hst.out⟩
      case measure => simp [intOf]; omega
    · obtain rfl : k = m := by omega
      have hb2 := hb.out
      rw [List.take_of_length_le (by rw [← Hm.out]; exact Nat.le_refl _)] at hb2
      have hst := hb2.string (n := n) (c := n) (txU_len n l).symm
      have Hext : Hid (Ext w wr) := Hx.out.tr (hb2.below.mono hW.out)
      clear hb2
      go_wp2
      go_ret
      exact ⟨rfl, Hext.out⟩
end Go.Proofs.YtjecdmlojgmbeaaGreatDoor
