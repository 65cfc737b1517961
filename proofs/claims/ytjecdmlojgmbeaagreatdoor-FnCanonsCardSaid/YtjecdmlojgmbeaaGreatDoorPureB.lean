/- Plain facts: which strings are rhythms; a canon read from its voices. -/
import Derived.Test.YtjecdmlojgmbeaaGreatDoorFtxt
import Derived.Test.YtjecdmlojgmbeaaGreatDoorFcn
import Derived.Lib.SlTrimSet
namespace Go.Proofs.YtjecdmlojgmbeaaGreatDoor
/-- the places of 'x' below k -/
def psUp (s : ByteArray) (k : Nat) : List Int := ((List.range k).filter fun p => s.data.toList[p]? == some 120).map fun (p : Nat) => (p : Int)
theorem psUp_t {s : ByteArray} {k : Nat} (h : s.data.toList[k]? = some 120) : psUp s (k + 1) = psUp s k ++ [(k : Int)] := by
  unfold psUp; rw [List.range_succ, List.filter_append, List.map_append, List.filter_cons, if_pos (by rw [h]; decide)]; rfl
theorem psUp_f {s : ByteArray} {k : Nat} (h : ¬ s.data.toList[k]? = some 120) : psUp s (k + 1) = psUp s k := by
  unfold psUp; rw [List.range_succ, List.filter_append, List.map_append, List.filter_cons, if_neg (by rw [beq_iff_eq]; exact h)]; simp
theorem psUp_mem {s : ByteArray} {k p : Nat} : (p : Int) ∈ psUp s k ↔ p < k ∧ s.data.toList[p]? = some 120 := by
  unfold psUp
  rw [List.mem_map]
  constructor
  · rintro ⟨i, hi, e⟩
    rw [List.mem_filter, List.mem_range] at hi
    obtain rfl : i = p := by omega
    exact ⟨hi.1, by simpa using hi.2⟩
  · intro h
    exact ⟨p, by rw [List.mem_filter, List.mem_range]; exact ⟨h.1, by simpa using h.2⟩, rfl⟩
theorem psUp_inc (s : ByteArray) (k : Nat) : Inc (psUp s k) ∧ ∀ x ∈ psUp s k, 0 ≤ x ∧ x < k := by
  constructor
  · unfold psUp Inc
    rw [List.pairwise_map]
    exact (List.pairwise_lt_range.filter _).imp fun h => by omega
  · intro x hx
    unfold psUp at hx
    rw [List.mem_map] at hx
    obtain ⟨i, hi, rfl⟩ := hx
    rw [List.mem_filter, List.mem_range] at hi
    omega
theorem psUp_len (s : ByteArray) (k : Nat) : (psUp s k).length ≤ k := inc_len (psUp_inc s k).1 (psUp_inc s k).2
def dotB (s : ByteArray) : Bool := s.data.toList.all fun b => b == 120 || b == 46
def prB (s : ByteArray) : Bool := decide (1 ≤ s.size) && decide (s.size ≤ 24) && dotB s
def prN (s : ByteArray) : Int := if prB s = true then (s.size : Int) else 0
def prL (s : ByteArray) : List Int := if prB s = true then psUp s s.size else []
theorem pr_t {s : ByteArray} (h : prB s = true) : prN s = (s.size : Int) ∧ prL s = psUp s s.size ∧ 1 ≤ s.size ∧ s.size ≤ 24 ∧ dotB s = true := by
  unfold prN prL; rw [if_pos h, if_pos h]
  unfold prB at h
  simp only [Bool.and_eq_true, decide_eq_true_eq] at h
  exact ⟨rfl, rfl, h.1.1, h.1.2, h.2⟩
theorem pr_f {s : ByteArray} (h : prB s = false) : prN s = 0 ∧ prL s = [] := by
  unfold prN prL; rw [h]; exact ⟨rfl, rfl⟩
theorem pr_ok {s : ByteArray} (h : prB s = true) : RhyOk (s.size : Int) (psUp s s.size) := by
  have h1 := pr_t h
  exact ⟨by omega, psUp_inc s s.size⟩
theorem size_list (s : ByteArray) : s.data.toList.length = s.size := rfl
theorem txU_byte {s : ByteArray} {p : Nat} (hp : p < s.size) {m : List Int} : (txU s.size m)[p]? = some (if (p : Int) ∈ m then 120 else 46) := txU_get m hp
theorem bs_ext {a b : ByteArray} (h : a.data.toList = b.data.toList) : a = b := by
  cases a with | mk x => cases b with | mk y => exact congrArg ByteArray.mk (Array.toList_inj.1 h)
theorem strOfNums_list (l : List Int) : (strOfNums l).data.toList = l.map fun n : Int => UInt8.ofNat n.toNat := by unfold strOfNums; rfl
/-- a string of dots and beats is the text of its own rhythm, and no other string is -/
theorem text_back (s : ByteArray) : strOfNums (txU s.size (psUp s s.size)) = s ↔ dotB s = true := by
  unfold dotB
  rw [List.all_eq_true]
  have hl := size_list s
  constructor
  · intro h b hb
    have h2 : (strOfNums (txU s.size (psUp s s.size))).data.toList = s.data.toList := by rw [h]
    rw [← h2, strOfNums_list, List.mem_map] at hb
    obtain ⟨n, hn, rfl⟩ := hb
    unfold txU at hn
    rw [List.mem_map] at hn
    obtain ⟨p, _, rfl⟩ := hn
    split <;> decide
  · intro h
    refine bs_ext ?_
    rw [strOfNums_list]
    refine List.ext_getElem? fun p => ?_
    rw [List.getElem?_map]
    by_cases hp : p < s.size
    · rw [txU_byte hp]
      have hb : s.data.toList[p]? = some s.data.toList[p] := List.getElem?_eq_getElem (by rw [hl]; exact hp)
      have h2 := h _ (List.getElem_mem (l := s.data.toList) (by rw [hl]; exact hp))
      by_cases hin : (p : Int) ∈ psUp s s.size
      · rw [if_pos hin, (psUp_mem.1 hin).2]; rfl
      · rw [if_neg hin]
        have hne : s.data.toList[p] ≠ 120 := fun e => hin (psUp_mem.2 ⟨hp, by rw [hb, e]⟩)
        rw [hb]
        simp only [Bool.or_eq_true, beq_iff_eq] at h2
        rcases h2 with h2 | h2
        · exact absurd h2 hne
        · rw [h2]; rfl
    · rw [List.getElem?_eq_none (by rw [txU_len]; omega), List.getElem?_eq_none (by rw [hl]; omega)]; rfl
theorem trim_dot (l : List UInt8) : Go.Lib.trimS l [120, 46] = [] ↔ (l.all fun b => b == 120 || b == 46) = true := by
  have hc : ∀ b : UInt8, ([120, 46] : List UInt8).contains b = (b == 120 || b == 46) := fun b => by
    unfold List.contains List.elem List.elem List.elem
    cases h1 : b == 120 <;> cases h2 : b == 46 <;> rfl
  unfold Go.Lib.trimS Go.Lib.trimLeftS Go.Lib.trimRightS
  have e : ∀ m : List UInt8, m.dropWhile (fun x => ([120, 46] : List UInt8).contains x) = [] ↔ ∀ b ∈ m, (b == 120 || b == 46) = true := by
    intro m
    induction m with
    | nil => simp
    | cons b t ih =>
      rw [List.dropWhile_cons, hc b]
      by_cases h : (b == 120 || b == 46) = true
      · rw [if_pos h, ih]; simp only [List.mem_cons, forall_eq_or_imp, h, true_and]
      · rw [if_neg h]; simp only [List.mem_cons, forall_eq_or_imp, h, false_and]; simp
  rw [List.all_eq_true, e]
  constructor
  · intro h
    by_cases hd : l.reverse.dropWhile (fun x => ([120, 46] : List UInt8).contains x) = []
    · intro b hb; exact (e _).1 hd b (List.mem_reverse.2 hb)
    · exfalso
      obtain ⟨b, t, hbt⟩ := List.exists_cons_of_ne_nil hd
      have h2 := h b (by rw [List.mem_reverse, hbt]; exact List.mem_cons_self ..)
      have h3 : ∀ m : List UInt8, m.dropWhile (fun x => ([120, 46] : List UInt8).contains x) = b :: t → ¬ (b == 120 || b == 46) = true := by
        intro m
        induction m with
        | nil => intro hm; simp at hm
        | cons a s ih =>
          intro hm
          rw [List.dropWhile_cons, hc a] at hm
          by_cases ha : (a == 120 || a == 46) = true
          · rw [if_pos ha] at hm; exact ih hm
          · rw [if_neg ha] at hm
            injection hm with h4 h5
            rw [← h4]; exact ha
      exact h3 _ hbt h2
  · intro h
    have hd : l.reverse.dropWhile (fun x => ([120, 46] : List UInt8).contains x) = [] := (e _).2 fun b hb => h b (List.mem_reverse.1 hb)
    rw [hd]
    intro b hb
    simp at hb
/-! reading a canon -/
/-- the text of a rotation -/
def rtT (n : Nat) (l : List Int) (o : Nat) : ByteArray := strOfNums (txU n (rotL n l o))
/-- the first rotation from o on with this text; n if there is none -/
def nxR (n : Nat) (l : List Int) (line : ByteArray) : Nat → Nat → Nat
  | 0, o => o
  | f + 1, o => if o < n ∧ ¬ rtT n l o = line then nxR n l line f (o + 1) else o
def nxt (n : Nat) (l : List Int) (line : ByteArray) (o : Nat) : Nat := nxR n l line (n - o) o
theorem nxt_go {n : Nat} {l : List Int} {line : ByteArray} {o : Nat} (h1 : o < n) (h2 : ¬ rtT n l o = line) : nxt n l line o = nxt n l line (o + 1) := by
  unfold nxt
  rw [show n - o = (n - (o + 1)) + 1 by omega, nxR, if_pos ⟨h1, h2⟩]
theorem nxt_hit {n : Nat} {l : List Int} {line : ByteArray} {o : Nat} (h1 : o < n) (h2 : rtT n l o = line) : nxt n l line o = o := by
  unfold nxt
  rw [show n - o = (n - o - 1) + 1 by omega, nxR, if_neg (fun h => h.2 h2)]
theorem nxt_end {n : Nat} {l : List Int} {line : ByteArray} : nxt n l line n = n := by unfold nxt; rw [Nat.sub_self, nxR]
theorem nxt_le {n : Nat} {l : List Int} {line : ByteArray} : ∀ {o : Nat}, o ≤ n → o ≤ nxt n l line o ∧ nxt n l line o ≤ n := by
  have : ∀ (d o : Nat), n - o = d → o ≤ n → o ≤ nxt n l line o ∧ nxt n l line o ≤ n := by
    intro d
    induction d with
    | zero => intro o h1 h2; obtain rfl : o = n := by omega
              rw [nxt_end]; exact ⟨Nat.le_refl _, Nat.le_refl _⟩
    | succ d ih =>
      intro o h1 h2
      by_cases h : rtT n l o = line
      · rw [nxt_hit (by omega) h]; omega
      · rw [nxt_go (by omega) h]
        have := ih (o + 1) (by omega) (by omega)
        omega
  intro o h
  exact this _ o rfl h
/-- where the next search starts -/
def nextP (es : List Int) : Nat := if es = [] then 0 else (lastI es).toNat + 1
/-- the entries behind k lines -/
def rdUp (n : Nat) (l : List Int) (ss : List ByteArray) : Nat → Option (List Int)
  | 0 => some []
  | k + 1 => match rdUp n l ss k with
    | none => none
    | some es => if nxt n l (ss.getD k ByteArray.empty) (nextP es) = n then none else some (es ++ [((nxt n l (ss.getD k ByteArray.empty) (nextP es) : Nat) : Int)])
theorem lastI_app (l : List Int) (x : Int) : lastI (l ++ [x]) = x := by simp [lastI]
theorem nextP_app (l : List Int) (q : Nat) : nextP (l ++ [(q : Int)]) = q + 1 := by unfold nextP; rw [if_neg (by simp), lastI_app]; simp
theorem rd_ok {n : Nat} {l : List Int} {ss : List ByteArray} : ∀ {k : Nat} {es : List Int}, rdUp n l ss k = some es → es.length = k ∧ Inc es ∧ (∀ x ∈ es, 0 ≤ x ∧ x < n) ∧ nextP es ≤ n ∧ ∀ x ∈ es, x < nextP es := by
  intro k
  induction k with
  | zero => intro es h; simp [rdUp] at h; subst h; simp [Inc, nextP]
  | succ k ih =>
    intro es h
    rw [rdUp] at h
    cases e : rdUp n l ss k with
    | none => rw [e] at h; cases h
    | some es' =>
      rw [e] at h
      simp only at h
      split at h
      · cases h
      · rename_i hq
        injection h with h
        subst h
        obtain ⟨h1, h2, h3, h4, h5⟩ := ih e
        have hn := nxt_le (l := l) (line := ss.getD k ByteArray.empty) h4
        refine ⟨by simp [h1], ?_, ?_, by rw [nextP_app]; omega, ?_⟩
        · exact h2.snoc fun y hy => by have := h5 y hy; omega
        · intro x hx
          rcases List.mem_append.1 hx with h' | h'
          · exact h3 x h'
          · rw [List.mem_singleton] at h'; omega
        · intro x hx
          rw [nextP_app]
          rcases List.mem_append.1 hx with h' | h'
          · have := h5 x h'; omega
          · rw [List.mem_singleton] at h'; omega
theorem rd_none {n : Nat} {l : List Int} {ss : List ByteArray} {k : Nat} (h : rdUp n l ss k = none) : ∀ {m : Nat}, k ≤ m → rdUp n l ss m = none := by
  intro m
  induction m with
  | zero => intro hm; obtain rfl : k = 0 := by omega
            exact h
  | succ m ih =>
    intro hm
    by_cases e : k = m + 1
    · rw [← e]; exact h
    · rw [rdUp, ih (by omega)]
theorem rd_some {n : Nat} {l : List Int} {ss : List ByteArray} {k : Nat} {es : List Int} {line : ByteArray} (h : rdUp n l ss k = some es) (hs : ss[k]? = some line) (hq : nxt n l line (nextP es) ≠ n) : rdUp n l ss (k + 1) = some (es ++ [((nxt n l line (nextP es) : Nat) : Int)]) := by
  rw [rdUp, h]
  have e : ss.getD k ByteArray.empty = line := by simp [List.getD_eq_getElem?_getD, hs]
  simp only [e]
  rw [if_neg hq]
theorem rd_fail {n : Nat} {l : List Int} {ss : List ByteArray} {k : Nat} {es : List Int} {line : ByteArray} (h : rdUp n l ss k = some es) (hs : ss[k]? = some line) (hq : nxt n l line (nextP es) = n) : rdUp n l ss (k + 1) = none := by
  rw [rdUp, h]
  have e : ss.getD k ByteArray.empty = line := by simp [List.getD_eq_getElem?_getD, hs]
  simp only [e]
  rw [if_pos hq]
def rcHead (ss : List ByteArray) : ByteArray := ss.headD ByteArray.empty
def rdcO (ss : List ByteArray) : Option (List Int) := if prB (rcHead ss) = true ∧ ¬ prL (rcHead ss) = [] ∧ ¬ ss = [] then rdUp (rcHead ss).size (prL (rcHead ss)) ss ss.length else none
def rdcB (ss : List ByteArray) : Bool := (rdcO ss).isSome
def rdcN (ss : List ByteArray) : Int := if rdcB ss = true then ((rcHead ss).size : Int) else 0
def rdcI (ss : List ByteArray) : List Int := if rdcB ss = true then prL (rcHead ss) else []
def rcE (ss : List ByteArray) : List Int := (rdcO ss).getD []
theorem rc_none {ss : List ByteArray} (h : rdcO ss = none) : rdcB ss = false ∧ rdcN ss = 0 ∧ rdcI ss = [] ∧ rcE ss = [] := by
  have hb : rdcB ss = false := by unfold rdcB; rw [h]; rfl
  unfold rdcN rdcI rcE
  rw [hb, h]
  exact ⟨rfl, rfl, rfl, rfl⟩
theorem rc_some {ss : List ByteArray} {es : List Int} (h : rdcO ss = some es) : rdcB ss = true ∧ rdcN ss = ((rcHead ss).size : Int) ∧ rdcI ss = prL (rcHead ss) ∧ rcE ss = es := by
  have hb : rdcB ss = true := by unfold rdcB; rw [h]; rfl
  unfold rdcN rdcI rcE
  rw [hb, h]
  exact ⟨rfl, rfl, rfl, rfl⟩
/-- the rotation by 0 has the first line's text -/
theorem rt_zero {s : ByteArray} (h : prB s = true) : rtT s.size (prL s) 0 = s := by
  obtain ⟨h1, h2, h3, h4, h5⟩ := pr_t h
  unfold rtT
  have hr := pr_ok h
  have e : rotL s.size (prL s) ((0 : Nat) : Int) = psUp s s.size := by
    rw [h2]
    unfold rotL
    have e1 : addL ((0 : Nat) : Int) (psUp s s.size) = psUp s s.size := by unfold addL; simp
    rw [e1, remL_id hr.2.2, rhL_eq hr.2.1 hr.2.2]
  rw [e]
  exact (text_back s).2 h5
end Go.Proofs.YtjecdmlojgmbeaaGreatDoor
