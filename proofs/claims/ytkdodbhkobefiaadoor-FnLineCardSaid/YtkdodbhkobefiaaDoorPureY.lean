/- Plain facts: what FnLine asks of the patterns that MakePattern draws. -/
import Derived.Test.YtkdodbhkobefiaaDoorPureK
import Derived.Test.YtkdodbhkobefiaaDoorFent
import Derived.Test.YtkdodbhkobefiaaDoorFline
import Derived.Test.YtkdodbhkobefiaaDoorFtil
namespace Go.Proofs.YtkdodbhkobefiaaDoor
def outK (l : List Int) : Bool × Nat × List Nat := if patB l = true then (runK (maskN l) 4097 0 0 []).getD (false, 0, []) else (false, 0, [])
theorem out_K (l : List Int) : outc l = outK l := by unfold outc outK; rw [run_K]
def entK (m : Nat) : Nat → Nat → Nat → List Nat → Option (List Nat)
  | 0, _, _, es => some es
  | k + 1, s, t, es => if s &&& m = 0 then (match DK (s + m) with | (r, d) => entK m k r (t + d) (es ++ [t])) else none
theorem ent_K (m : Nat) : ∀ k s t es, ent m k s t es = entK m k s t es := by
  intro k
  induction k with
  | zero => intro s t es; rfl
  | succ k ih => intro s t es; rw [ent, entK, D_K]; simp only [ih]
def tilB (n : Nat) (l r : List Int) : Bool := decide (RhyOk n l) && decide (RhyOk n r) && (l.length * r.length == n) && ((posL n (scL n l r)).length == n)
theorem tilB_ok {n : Nat} {l r : List Int} (h : tilB n l r = true) : TilOk n l r := by
  unfold tilB at h
  simp only [Bool.and_eq_true, decide_eq_true_eq, beq_iff_eq] at h
  exact ⟨h.1.1.1, h.1.1.2, h.1.2, h.2⟩
def entChk (o : Option (List Nat)) (q : Nat) (es : List Nat) : Bool := match o with
  | some e => (e.length == 8) && ((List.range 8).all fun i => e.getD i 0 == es.getD (i % es.length) 0 + i / es.length * q) && (e.all fun x => decide (x ≤ 1000)) && es.all fun x => decide (x ≤ 1000)
  | none => false
def onChk (p : List Int) (q : Nat) (es : List Nat) : Bool :=
  decide (1 ≤ q) && decide (q ≤ 24) && decide (1 ≤ es.length) && (es.length * p.length == q) && entChk (entK (maskN p) 8 0 0 []) q es && tilB q (rhL q (remL q p)) (rhL q (esI es)) && decide (1 ≤ ctK (maskN p) (maskN (mirL p)) q (q + 1) 0 0)
def lineChk (p : List Int) : Bool := match outK p, outK (mirL p) with
  | (true, q, es), (true, q2, _) => (q2 == q) && onChk p q es
  | (false, _, _), (false, _, _) => true
  | _, _ => false
theorem pats_line : (pats.all lineChk) = true := by decide +kernel
structure LineOn (p : List Int) (q : Nat) (es E : List Nat) : Prop where
  lp : linP p = q
  ft : failT p = -1
  bl : blkLen p = q
  on : (outc p).1 = true
  onm : (outc (mirL p)).1 = true
  blm : blkLen (mirL p) = q
  q1 : 1 ≤ q ∧ q ≤ 24
  oc : outc p = (true, q, es)
  len : 1 ≤ es.length ∧ es.length * p.length = q
  ent : entL p 8 = esI E
  entb : entB p 8 = true
  elen : E.length = 8
  eget : ∀ i, i < 8 → E.getD i 0 = es.getD (i % es.length) 0 + i / es.length * q
  ele : ∀ x ∈ E, x ≤ 1000
  esle : ∀ x ∈ es, x ≤ 1000
  til : TilOk q (rhL q (remL q p)) (rhL q (esI es))
  cov : 1 ≤ (cv (maskN p) (maskN (mirL p)) q (q + 1) 0 0).length
structure LineOff (p : List Int) (f : Nat) : Prop where
  lp : linP p = 0
  ft : failT p = f
  bl : blkLen p = 0
  on : (outc p).1 = false
  onm : (outc (mirL p)).1 = false
theorem line_on {p : List Int} (hp : PatOk p) {q q2 : Nat} {es es2 : List Nat} (h1 : outc p = (true, q, es)) (h2 : outc (mirL p) = (true, q2, es2)) (hq : q2 = q) (hc : onChk p q es = true) : ∃ E, LineOn p q es E := by
  subst hq
  unfold onChk at hc
  simp only [Bool.and_eq_true, decide_eq_true_eq, beq_iff_eq] at hc
  obtain ⟨⟨⟨⟨⟨⟨c1, c2⟩, c3⟩, c4⟩, c5⟩, c6⟩, c7⟩ := hc
  unfold entChk at c5
  cases e : entK (maskN p) 8 0 0 [] with
  | none => rw [e] at c5; cases c5
  | some E =>
    rw [e] at c5
    simp only [Bool.and_eq_true, beq_iff_eq, List.all_eq_true, List.mem_range, decide_eq_true_eq] at c5
    have he : entO p 8 = some E := by
      unfold entO
      rw [if_pos ⟨(patB_iff _).2 hp, by omega, by omega⟩, ent_K]
      exact e
    refine ⟨E, ⟨?_, ?_, ?_, ?_, ?_, ?_, ⟨c1, c2⟩, h1, ⟨c3, c4⟩, ?_, ?_, c5.1.1.1, c5.1.1.2, c5.1.2, c5.2, tilB_ok c6, by rw [ct_K]; exact c7⟩⟩
    · unfold linP; rw [h1]; simp
    · unfold failT; rw [h1]; simp
    · unfold blkLen; rw [h1]; simp; omega
    · rw [h1]
    · rw [h2]
    · unfold blkLen; rw [h2]; simp; omega
    · unfold entL; rw [he]
    · unfold entB; rw [he]; rfl
theorem pats_lineP {p : List Int} (h : p ∈ pats) : (∃ q es E, LineOn p q es E) ∨ ∃ f, LineOff p f := by
  have hc := List.all_eq_true.1 pats_line p h
  have hp := pats_ok h
  unfold lineChk at hc
  rcases e1 : outK p with ⟨b1, q1, es1⟩
  rcases e2 : outK (mirL p) with ⟨b2, q2, es2⟩
  rw [e1, e2] at hc
  have h1 : outc p = (b1, q1, es1) := by rw [out_K, e1]
  have h2 : outc (mirL p) = (b2, q2, es2) := by rw [out_K, e2]
  cases b1 with
  | true =>
    cases b2 with
    | true =>
      simp only [Bool.and_eq_true, beq_iff_eq] at hc
      obtain ⟨E, hE⟩ := line_on hp h1 h2 hc.1 hc.2
      exact .inl ⟨_, _, E, hE⟩
    | false => cases hc
  | false =>
    cases b2 with
    | true => cases hc
    | false =>
      refine .inr ⟨q1, ⟨?_, ?_, ?_, by rw [h1], by rw [h2]⟩⟩
      · unfold linP; rw [h1]; simp
      · unfold failT; rw [h1]; simp [(patB_iff _).2 hp]
      · unfold blkLen; rw [h1]; simp
theorem line_c1 : linP [0, 2] = 4 := by unfold linP; rw [out_K]; decide +kernel
theorem line_c2 : failT [0, 1, 3] = 2 := by unfold failT; rw [out_K]; decide +kernel
theorem line_c3 : blkLen [0, 1, 4, 5] = 8 := by unfold blkLen; rw [out_K]; decide +kernel
end Go.Proofs.YtkdodbhkobefiaaDoor
