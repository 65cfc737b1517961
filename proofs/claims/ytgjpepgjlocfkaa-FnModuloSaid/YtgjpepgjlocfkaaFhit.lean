/- Contracts: HitsOf on both sides: how often each time is hit. -/
import Derived.Test.YtgjpepgjlocfkaaFa
import Derived.Deep.OwnRows
namespace Go.Proofs.Ytgjpepgjlocfkaa
open Go.RowKit

theorem own_made {w : World} {B n : Nat} (hB : B ≤ w.heap.size) (hn : n ≤ 1099511627776) : Own (w.alloc (.cells (madeCells #[.int .i64 0] n) 3)) B (.slice (some ⟨w.heap.size, 0, none⟩) n n) (List.replicate n 0) := by
  have hsz : (madeCells #[Value.int .i64 0] n).size = n := by have := congrArg List.length (toList_madeCells_one (.int .i64 0) n); simpa using this
  have h := World.ownsRow_lit (e := 3) (size := 1) w (madeCells #[.int .i64 0] n) n hB (by unfold maxLen; omega) (by rw [hsz]; omega)
  have e : (madeCells #[Value.int .i64 0] n).toList = (List.replicate n (0 : Int)).map (Value.int .i64) := by rw [List.map_replicate]; exact toList_madeCells_one _ _
  have h2 := h
  rw [e] at h2
  refine ⟨by simpa using h2, fun x hx => ?_⟩
  rw [List.mem_replicate] at hx
  rw [hx.2]; unfold I64; omega

theorem Asc.lt {lo hi : Int} {l : List Int} (h : Asc lo hi l) {k : Nat} {x : Int} (hx : l[k]? = some x) : ∀ {d : Nat} {y : Int}, l[k + d]? = some y → x ≤ y := by
  intro d
  induction d with
  | zero => intro y hy; rw [Nat.add_zero, hx] at hy; cases hy; exact Int.le_refl _
  | succ d ih =>
    intro y hy
    have hk := (List.getElem?_eq_some_iff.1 hy).1
    have hz : l[k + d]? = some l[k + d] := List.getElem?_eq_getElem (by omega)
    have h1 := ih hz
    have h2 := (h (k + (d + 1)) y hk hy).2.2 l[k + d] (by omega) hz
    omega
theorem Asc.le_last {lo hi : Int} {l : List Int} (h : Asc lo hi l) {k : Nat} {x : Int} (hx : l[k]? = some x) : x ≤ lastI l := by
  have hk := (List.getElem?_eq_some_iff.1 hx).1
  refine h.lt hx (d := l.length - 1 - k) ?_
  rw [show k + (l.length - 1 - k) = l.length - 1 by omega]
  exact lastI_get (by omega)

def bump (o : List Int) (i : Nat) : List Int := o.set i (o.getD i 0 + 1)
def hitRow (e : Int) (l o : List Int) : List Int := l.foldl (fun o x => bump o (e + x).toNat) o
def hitAll (l es o : List Int) : List Int := es.foldl (fun o e => hitRow e l o) o
def hit0 (l es : List Int) : List Int := List.replicate (lastI es + lastI l + 1).toNat 0
def EntOk (es : List Int) : Prop := 0 < es.length ∧ Asc 0 40 es
def hitI (l es : List Int) : List Int := if patB l = true ∧ 0 < es.length ∧ ascB 0 40 es = true then hitAll l es (hit0 l es) else []
theorem hitI_t {l es : List Int} (h : PatOk l) (h0 : 0 < es.length) (h1 : Asc 0 40 es) : hitI l es = hitAll l es (hit0 l es) := by
  unfold hitI; rw [if_pos ⟨patB_t h, h0, (ascB_iff _ _ _).2 h1⟩]
theorem hitI_f {l es : List Int} (h : ¬ (PatOk l ∧ 0 < es.length ∧ Asc 0 40 es)) : hitI l es = [] := by
  unfold hitI; rw [if_neg (fun h' => h ⟨(patB_iff _).1 h'.1, h'.2.1, (ascB_iff _ _ _).1 h'.2.2⟩)]
def Bd (n : Nat) (o : List Int) : Prop := ∀ x ∈ o, 0 ≤ x ∧ x ≤ n
theorem Bd.bump {n : Nat} {o : List Int} (h : Bd n o) (i : Nat) : Bd (n + 1) (bump o i) := by
  intro x hx
  rcases List.mem_or_eq_of_mem_set hx with h' | h'
  · have := h x h'; omega
  · by_cases hi : i < o.length
    · have := h _ (List.mem_of_getElem? (get_of_lt hi)); omega
    · have h2 := List.getElem?_eq_none (l := o) (i := i) (by omega)
      rw [show o.getD i 0 = 0 by simp [List.getD, h2]] at h'
      omega
theorem Bd.mono {n m : Nat} {o : List Int} (h : Bd n o) (hm : n ≤ m) : Bd m o := fun x hx => by have := h x hx; omega
theorem bump_len (o : List Int) (i : Nat) : (bump o i).length = o.length := by simp [Go.Proofs.Ytgjpepgjlocfkaa.bump]
theorem hitRow_succ {e : Int} {l o : List Int} {k : Nat} {x : Int} (hx : l[k]? = some x) : hitRow e (l.take (k + 1)) o = bump (hitRow e (l.take k) o) (e + x).toNat := by
  unfold hitRow; rw [take_succ hx, List.foldl_append]; rfl
theorem hitAll_succ {l es o : List Int} {k : Nat} {e : Int} (he : es[k]? = some e) : hitAll l (es.take (k + 1)) o = hitRow e l (hitAll l (es.take k) o) := by
  unfold hitAll; rw [take_succ he, List.foldl_append]; rfl
theorem hitRow_len (e : Int) (l : List Int) : ∀ o, (hitRow e l o).length = o.length := by
  unfold hitRow
  induction l with
  | nil => intro o; rfl
  | cons x t ih => intro o; rw [List.foldl_cons, ih, bump_len]
theorem hitAll_len (l es : List Int) : ∀ o, (hitAll l es o).length = o.length := by
  unfold hitAll
  induction es with
  | nil => intro o; rfl
  | cons x t ih => intro o; rw [List.foldl_cons, ih, hitRow_len]
theorem hitI_len (l es : List Int) : (hitI l es).length ≤ 1000000 := by
  by_cases h : PatOk l ∧ 0 < es.length ∧ Asc 0 40 es
  · rw [hitI_t h.1 h.2.1 h.2.2, hitAll_len]
    have h1 := h.1.2.2.at_ (lastI_get h.1.1)
    have h2 := h.2.2.at_ (lastI_get h.2.1)
    unfold hit0
    rw [List.length_replicate]
    omega
  · rw [hitI_f h]; exact Nat.zero_le _

set_option maxHeartbeats 2000000 in
theorem hitsOf_c (l es : List Int) (v u : Value) (w : World) (hv : Ints w v l) (hu : Ints w u es) : Calls Try.prog 12 #[v, u] w (RL (hitI l es) w) := by
  have hvl := hv.len
  have hul := hu.len
  obtain ⟨A, c, rfl, hlc, hcm⟩ := hv.form0
  obtain ⟨A', c', rfl, hlc', hcm'⟩ := hu.form0
  have Hv := Lib.hid hv
  have Hu := Lib.hid hu
  clear hv hu
  by_cases hp : PatOk l
  · have Hp := Lib.hid hp
    have hlen := hp.len
    obtain ⟨ad, c1, hA, _, _⟩ := Hv.out.form (by omega)
    obtain ⟨rfl, rfl⟩ : A = some ad ∧ c = c1 := by simpa using hA
    clear hp hA
    by_cases h0 : es.length = 0
    · have hb0 : ((es.length : Int) == 0) = true := by simp [h0]
      have H := Lib.hid (hitI_f (l := l) (es := es) (fun h => by omega))
      clear h0
      go_enter Try.func12, Try.ntmps12
      go_wp2_with (first | (go_at_call 20; refine (patternOk_c l _ _ Hv.out).mono ?_; rintro e w1 ⟨b, rfl, hb, rfl⟩; obtain rfl := hb.2 Hp.out; clear hb))
      go_ret
      exact ⟨_, rfl, by rw [H.out]; exact Own.nil _ _, Below.refl _ _⟩
    · have hb0 : ((es.length : Int) == 0) = false := by rw [beq_eq_false_iff_ne]; omega
      obtain ⟨ad', c1, hA, _, _⟩ := Hu.out.form (by omega)
      obtain ⟨rfl, rfl⟩ : A' = some ad' ∧ c' = c1 := by simpa using hA
      have hl1 : 0 < es.length := by omega
      clear hA h0
      go_enter Try.func12, Try.ntmps12
      go_wp2_with (first | (go_at_call 20; refine (patternOk_c l _ _ Hv.out).mono ?_; rintro e w1 ⟨b, rfl, hb, rfl⟩; obtain rfl := hb.2 Hp.out; clear hb))
      go_loop [22] (fun i => ∃ k : Nat, k ≤ es.length ∧ i = .int .i64 k ∧ Hid (AscN 0 40 es k)) (fun i => es.length - (intOf i).toNat)
      case atStart => exact ⟨0, Nat.zero_le _, rfl, AscN.zero _ _ _⟩
      case round =>
        obtain ⟨k, hk, rfl, hasc⟩ := hrel
        rcases hx : es[k]? with _ | x
        · have hkl : es.length = k := by have := List.getElem?_eq_none_iff.1 hx; omega
          have hasc2 : Asc 0 40 es := by unfold Asc; rw [hkl]; exact hasc.out
          have H := Lib.hid (hitI_t Hp.out hl1 hasc2)
          have Hasc := Lib.hid hasc2
          have h1 : es.length ≤ k := by omega
          have hr1 := Hp.out.2.2.at_ (lastI_get Hp.out.1)
          have hr2 := hasc2.at_ (lastI_get hl1)
          have hn41 := hasc2.len (by omega)
          have hc1 := Hv.out.cell (lastI_get Hp.out.1)
          have hc2 := Hu.out.cell (lastI_get hl1)
          obtain ⟨N, hN⟩ : ∃ N : Nat, (N : Int) = lastI es + lastI l + 1 := ⟨(lastI es + lastI l + 1).toNat, by omega⟩
          have Hst : Hid (hit0 l es = List.replicate N 0) := by unfold Hid hit0; rw [← hN]; rfl
          have Hlast : Hid (∀ (j : Nat) (e : Int), es[j]? = some e → ∀ (m : Nat) (x : Int), l[m]? = some x → 0 ≤ e ∧ 0 ≤ x ∧ e + x + 1 ≤ (N : Int)) := by
            intro j e he m x hx
            have h1 := hasc2.le_last he
            have h2 := Hp.out.2.2.le_last hx
            have h3 := hasc2.at_ he
            have h4 := Hp.out.at_ hx
            omega
          clear hkl hx hasc2 hasc
          have hw1 : ((es.length : Int) - 1).toNat = es.length - 1 := by omega
          have hw2 : ((l.length : Int) - 1).toNat = l.length - 1 := by omega
          have hw3 : IntKind.i64.wrap ((es.length : Int) - 1) = (es.length : Int) - 1 := IntWalk.i64_in _ (by omega)
          have hw4 : IntKind.i64.wrap ((l.length : Int) - 1) = (l.length : Int) - 1 := IntWalk.i64_in _ (by omega)
          have hl1' : (1 : Int) ≤ (es.length : Int) := by omega
          have hl2' : (1 : Int) ≤ (l.length : Int) := by omega
          generalize hla : lastI l = la at *
          generalize hle : lastI es = le at *
          have hw5 : IntKind.i64.wrap (le + la) = le + la := IntWalk.i64_in _ (by omega)
          have hw6 : IntKind.i64.wrap (le + la + 1) = le + la + 1 := IntWalk.i64_in _ (by omega)
          have hin : (0 : Int) ≤ (es.length : Int) - 1 ∧ (es.length : Int) - 1 < (es.length : Int) ∧ (0 : Int) ≤ (l.length : Int) - 1 ∧ (l.length : Int) - 1 < (l.length : Int) := by omega
          clear hla hle
          have hmk := run_make_row' (P := Try.prog) 26 3 (.int .i64 0) 8 Try.underlying26 Try.infoInt rfl .i64 .i64 N (by omega) (by omega)
          rw [hN] at hmk
          go_wp2
          go_region_held3 (fun w' => w'.cell? (ad.add (l.length - 1)) = some (.int .i64 la) ∧ w'.cell? (ad'.add (es.length - 1)) = some (.int .i64 le))
            (first
              | go_keep
              | (go_split_ands
                 refine ⟨?_, ?_⟩
                 · exact cell_alloc hc1 _
                 · exact cell_alloc hc2 _))
            (fail)
          have Ho : Hid (Own (w.alloc (.cells (madeCells #[.int .i64 0] N) 3)) w.heap.size (.slice (some ⟨w.heap.size, 0, none⟩) N N) (hit0 l es)) := by rw [Hst.out]; exact own_made (Nat.le_refl _) (by omega)
          have hxx : Ext w (w.alloc (.cells (madeCells #[.int .i64 0] N) 3)) := (Below.refl _ _).alloc (Nat.le_refl _) _
          clear hmk hw1 hw2 hw3 hw4 hw5 hw6 hin hc1 hc2 hN
          go_wp2
          go_loopw [61] (fun i wr => ∃ (k2 : Nat) (o : List Int), k2 ≤ es.length ∧ i = .int .i64 k2 ∧ Hid (o = hitAll l (es.take k2) (hit0 l es)) ∧ Hid (Own wr w.heap.size (.slice (some ⟨w.heap.size, 0, none⟩) N N) o) ∧ Hid (Bd (13 * k2) o) ∧ Ext w wr) (fun i _ => es.length - (intOf i).toNat)
          case atStart => exact ⟨0, _, Nat.zero_le _, rfl, rfl, Ho.out, by show Bd (13 * 0) (hit0 l es); rw [Hst.out]; intro x hx; rw [List.mem_replicate] at hx; omega, hxx.drew⟩
          case round =>
            clear Ho hxx
            obtain ⟨k2, o, hk2, rfl, ho, hown, hbd, hxx⟩ := hrel
            by_cases hkl : k2 < es.length
            · obtain ⟨e, he⟩ : ∃ y, es[k2]? = some y := ⟨_, List.getElem?_eq_getElem hkl⟩
              have her := Hasc.out.at_ he
              have hcl := (Hu.out.ext hxx).cell he
              obtain ⟨ne, rfl⟩ := Int.eq_ofNat_of_zero_le her.1
              have He := Lib.hid he
              have Hcl := Lib.hid hcl
              clear he
              go_wp2
              clear hcl
              go_loopw [67] (fun i wr2 => ∃ (m : Nat) (o2 : List Int), m ≤ l.length ∧ i = .int .i64 m ∧ Hid (o2 = hitRow ne (l.take m) o) ∧ Hid (Own wr2 w.heap.size (.slice (some ⟨w.heap.size, 0, none⟩) N N) o2) ∧ Hid (Bd (13 * k2 + m) o2) ∧ Ext w wr2) (fun i _ => l.length - (intOf i).toNat)
              case atStart => exact ⟨0, o, Nat.zero_le _, rfl, rfl, hown.out, hbd.out, hxx⟩
              case round =>
                obtain ⟨m, o2, hm, rfl, ho2, hown2, hbd2, hxx2⟩ := hrel
                by_cases hml : m < l.length
                · obtain ⟨x, hx⟩ : ∃ y, l[m]? = some y := ⟨_, List.getElem?_eq_getElem hml⟩
                  have hxr := Hp.out.at_ hx
                  have hcx := (Hv.out.ext hxx2).cell hx
                  have hin := Hlast.out k2 _ He.out m _ hx
                  obtain ⟨nx, rfl⟩ := Int.eq_ofNat_of_zero_le hxr.1
                  have hN2 : N = o2.length := hown2.out.n_eq
                  have hq : (ne : Int) + nx < N ∧ (0 : Int) ≤ (ne : Int) + nx := by omega
                  have hqn : ((ne : Int) + nx).toNat = ne + nx := by omega
                  obtain ⟨y, hy⟩ : ∃ y, o2[ne + nx]? = some y := ⟨_, List.getElem?_eq_getElem (by omega)⟩
                  have hcy := hown2.out.cell hy
                  have hfy := hown2.out.free (ne + nx)
                  have hyr := hbd2.out y (List.mem_of_getElem? hy)
                  have hst := hown2.out.stored (ne + nx) (x := y + 1) (by unfold I64; omega)
                  have Hn : Hid (o2.set (ne + nx) (y + 1) = hitRow ne (l.take (m + 1)) o) := by
                    unfold Hid
                    rw [hitRow_succ hx, ← ho2.out, hqn]
                    unfold bump
                    rw [getD_of hy]
                  have Hb3 : Hid (Bd (13 * k2 + (m + 1)) (o2.set (ne + nx) (y + 1))) := by
                    have := hbd2.out.bump (ne + nx)
                    unfold bump at this
                    rw [getD_of hy] at this
                    exact this
                  have Hst2 := Lib.hid hst
                  have hyr2 : y ≤ 600 := by omega
                  clear hst hx hy hN2 hbd2
                  go_wp2
                  go_roundw
                  case rel => exact ⟨m + 1, _, by omega, by go_num, Hn, Hst2.out.1, Hb3.out, hxx2.grown Hst2.out.2 hxx2.size (fun k hk => by cases hk; exact Nat.le_refl _)⟩
                  case measure => simp [intOf]; omega
                · have Hm : Hid (m = l.length) := by show m = _; omega
                  have Hn : Hid (o2 = hitAll l (es.take (k2 + 1)) (hit0 l es)) := by
                    unfold Hid
                    rw [hitAll_succ He.out, ho2.out, Hm.out, List.take_length, ho.out]
                  go_wp2
                  go_roundw
                  case rel => exact ⟨k2 + 1, o2, by omega, by go_num, Hn, hown2, hbd2.out.mono (by omega), hxx2⟩
                  case measure => simp [intOf]; omega
            · have Hk : Hid (k2 = es.length) := by show k2 = _; omega
              go_wp2
              go_ret
              have := hown.out
              rw [ho.out, Hk.out, List.take_length] at this
              exact ⟨_, rfl, by rw [H.out]; exact this, hxx⟩
        · have hkl : k < es.length := (List.getElem?_eq_some_iff.1 hx).1
          have Hx := Lib.hid hx
          have hc := Hu.out.cell hx
          have hin : (k : Int) < (es.length : Int) := by omega
          clear hx
          by_cases h40 : 0 ≤ x ∧ x ≤ 40
          · by_cases hk0 : k = 0
            · have hk0' : (k : Int) ≤ 0 := by omega
              have Hn : Hid (AscN 0 40 es (k + 1)) := hasc.out.succ Hx.out ⟨h40.1, h40.2, fun _ h => absurd h (by omega)⟩
              clear hk0
              go_wp2_with (first | (go_at_call 17; refine (within_t _ ?_).mono ?_; (focus omega); rintro e w1 ⟨rfl, rfl⟩) | (go_at_call 17; refine (within_f _ ?_).mono ?_; (focus omega); rintro e w1 ⟨rfl, rfl⟩))
              go_round
              case rel => exact ⟨k + 1, by omega, by go_num, Hn⟩
              case measure => simp [intOf]; omega
            · have hk0' : (0 : Int) < k := by omega
              obtain ⟨y, hy⟩ : ∃ y, es[k - 1]? = some y := ⟨_, List.getElem?_eq_getElem (by omega)⟩
              have hc' := Hu.out.cell hy
              have Hy := Lib.hid hy
              clear hy hk0
              by_cases hxy : y < x
              · have Hn : Hid (AscN 0 40 es (k + 1)) := hasc.out.succ Hx.out ⟨h40.1, h40.2, fun z _ hz => by rw [Hy.out] at hz; cases hz; exact hxy⟩
                go_wp2_with (first | (go_at_call 17; refine (within_t _ ?_).mono ?_; (focus omega); rintro e w1 ⟨rfl, rfl⟩) | (go_at_call 17; refine (within_f _ ?_).mono ?_; (focus omega); rintro e w1 ⟨rfl, rfl⟩))
                go_round
                case rel => exact ⟨k + 1, by omega, by go_num, Hn⟩
                case measure => simp [intOf]; omega
              · have Hf := Lib.hid (hitI_f (l := l) (es := es) (fun h => hxy ((h.2.2 k x hkl Hx.out).2.2 y (by omega) Hy.out)))
                have hxy' : x ≤ y := by omega
                go_wp2_with (first | (go_at_call 17; refine (within_t _ ?_).mono ?_; (focus omega); rintro e w1 ⟨rfl, rfl⟩) | (go_at_call 17; refine (within_f _ ?_).mono ?_; (focus omega); rintro e w1 ⟨rfl, rfl⟩))
                go_ret
                exact ⟨_, rfl, by rw [Hf.out]; exact Own.nil _ _, Below.refl _ _⟩
          · have Hf := Lib.hid (hitI_f (l := l) (es := es) (fun h => h40 ⟨(h.2.2 k x hkl Hx.out).1, (h.2.2 k x hkl Hx.out).2.1⟩))
            go_wp2_with (first | (go_at_call 17; refine (within_t _ ?_).mono ?_; (focus omega); rintro e w1 ⟨rfl, rfl⟩) | (go_at_call 17; refine (within_f _ ?_).mono ?_; (focus omega); rintro e w1 ⟨rfl, rfl⟩))
            go_ret
            exact ⟨_, rfl, by rw [Hf.out]; exact Own.nil _ _, Below.refl _ _⟩
  · have H := Lib.hid (hitI_f (l := l) (es := es) (fun h => hp h.1))
    have Hp := Lib.hid hp
    clear hp
    go_enter Try.func12, Try.ntmps12
    go_wp2_with (first | (go_at_call 20; refine (patternOk_c l _ _ Hv.out).mono ?_; rintro e w1 ⟨b, rfl, hb, rfl⟩; obtain rfl := bool_f hb Hp.out; clear hb))
    go_ret
    exact ⟨_, rfl, by rw [H.out]; exact Own.nil _ _, Below.refl _ _⟩
end Go.Proofs.Ytgjpepgjlocfkaa
