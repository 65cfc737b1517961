/-
  No cell of these rows narrows 'for every input' (looked for: loops, veiled, ifaces, maps, wideKeys, modest, calm, conditions, laid).
  DERIVED. THE GIVEN ROWS OF THIS SEAT. 12 by the template 'for every input the law returns true; each argument reads behind the call as it read before'; 0 by the template 'total and deterministic' (their statements: YtknbnkfdkdhnkaaTotals.lean).
  GIVEN WITH THE SEED: the statements are not yours to turn. If you find one false, say at which input.
  Laid BY PROGRAM, IN A SANDBOX (cutbox-rows.mjs): the forced cells as the released guide's own fill.sh prints them over the translation f675f9154019bf0d… (all of the seat's roots in one cut). By AI agents, Wed Nov 11 2026. No macro, syntax, notation, axiom, sorry.
-/
import Derived.Test.YtknbnkfdkdhnkaaChecked
import GoSem.Claim
import GoSem.ClaimJoined
import GoSem.ClaimMapViews
import Derived.JoinedTies
import Derived.KernelRfl
namespace Go.Proofs.Ytknbnkfdkdhnkaa
/- THE CELL 'sum', in the pinned program and in every row, IS THE sha256 OF THE DUMP (.gsa) THAT YtknbnkfdkdhnkaaProg.lean LOADS. Nothing in Lean hashes anything: it is a label: what it is worth is what the hold of that sum in a sandbox is worth. -/
noncomputable def Try.pinned : Pinned := { name := "ytknbnkfdkdhnkaa", sum := "f675f9154019bf0deb999a937f68d45c5cbd7c2196da12f0ef44ad607b20f3c7", checked := Try.checked }
namespace Rows
def none {H : Type} : Left H := { results := [], args := [] }

/-- 'laws.FnExactPolyRhythm': WHATEVER THE INPUT: true; the input reads as it did. -/
def fnExactPolyRhythmSpec : ChangeSpec := { name := "fnExactPolyRhythm", fn := fun _ => fun
  | [d1, d2] => { results := [.lit (.bool true)], args := [d1, d2] }
  | _ => none }
def fnExactPolyRhythmRow : OpenClaim := { program := "ytknbnkfdkdhnkaa", sum := "f675f9154019bf0deb999a937f68d45c5cbd7c2196da12f0ef44ad607b20f3c7", func := "loop.example/g03204/laws.FnExactPolyRhythm", spec := "fnExactPolyRhythm", recurses := true, apart := false }
def FnExactPolyRhythmSaid : Prop := fnExactPolyRhythmRow.holds Try.pinned (OpenSpec.ofChange fnExactPolyRhythmSpec)

/-- ITS FALSE NEIGHBOUR: 'it returns false'. Refute it at one input. -/
def fnExactPolyRhythmWrong : ChangeSpec := { name := "fnExactPolyRhythm", fn := fun _ => fun
  | [d1, d2] => { results := [.lit (.bool false)], args := [d1, d2] }
  | _ => none }
def FnExactPolyRhythmWrongFalsely : Prop := fnExactPolyRhythmRow.holds Try.pinned (OpenSpec.ofChange fnExactPolyRhythmWrong)

/-- 'laws.FnExactMeetingsOf': WHATEVER THE INPUT: true; the input reads as it did. -/
def fnExactMeetingsOfSpec : ChangeSpec := { name := "fnExactMeetingsOf", fn := fun _ => fun
  | [d1, d2, d3] => { results := [.lit (.bool true)], args := [d1, d2, d3] }
  | _ => none }
def fnExactMeetingsOfRow : OpenClaim := { program := "ytknbnkfdkdhnkaa", sum := "f675f9154019bf0deb999a937f68d45c5cbd7c2196da12f0ef44ad607b20f3c7", func := "loop.example/g03204/laws.FnExactMeetingsOf", spec := "fnExactMeetingsOf", unfollowed := true, recurses := true, apart := false }
def FnExactMeetingsOfSaid : Prop := fnExactMeetingsOfRow.holds Try.pinned (OpenSpec.ofChange fnExactMeetingsOfSpec)

/-- ITS FALSE NEIGHBOUR: 'it returns false'. Refute it at one input. -/
def fnExactMeetingsOfWrong : ChangeSpec := { name := "fnExactMeetingsOf", fn := fun _ => fun
  | [d1, d2, d3] => { results := [.lit (.bool false)], args := [d1, d2, d3] }
  | _ => none }
def FnExactMeetingsOfWrongFalsely : Prop := fnExactMeetingsOfRow.holds Try.pinned (OpenSpec.ofChange fnExactMeetingsOfWrong)

/-- 'laws.FnExactFirstMeeting': WHATEVER THE INPUT: true; the input reads as it did. -/
def fnExactFirstMeetingSpec : ChangeSpec := { name := "fnExactFirstMeeting", fn := fun _ => fun
  | [d1, d2, d3] => { results := [.lit (.bool true)], args := [d1, d2, d3] }
  | _ => none }
def fnExactFirstMeetingRow : OpenClaim := { program := "ytknbnkfdkdhnkaa", sum := "f675f9154019bf0deb999a937f68d45c5cbd7c2196da12f0ef44ad607b20f3c7", func := "loop.example/g03204/laws.FnExactFirstMeeting", spec := "fnExactFirstMeeting", unfollowed := true, recurses := true, apart := false }
def FnExactFirstMeetingSaid : Prop := fnExactFirstMeetingRow.holds Try.pinned (OpenSpec.ofChange fnExactFirstMeetingSpec)

/-- ITS FALSE NEIGHBOUR: 'it returns false'. Refute it at one input. -/
def fnExactFirstMeetingWrong : ChangeSpec := { name := "fnExactFirstMeeting", fn := fun _ => fun
  | [d1, d2, d3] => { results := [.lit (.bool false)], args := [d1, d2, d3] }
  | _ => none }
def FnExactFirstMeetingWrongFalsely : Prop := fnExactFirstMeetingRow.holds Try.pinned (OpenSpec.ofChange fnExactFirstMeetingWrong)

/-- 'laws.FnExactThreeLayers': WHATEVER THE INPUT: true; the input reads as it did. -/
def fnExactThreeLayersSpec : ChangeSpec := { name := "fnExactThreeLayers", fn := fun _ => fun
  | [d1, d2, d3] => { results := [.lit (.bool true)], args := [d1, d2, d3] }
  | _ => none }
def fnExactThreeLayersRow : OpenClaim := { program := "ytknbnkfdkdhnkaa", sum := "f675f9154019bf0deb999a937f68d45c5cbd7c2196da12f0ef44ad607b20f3c7", func := "loop.example/g03204/laws.FnExactThreeLayers", spec := "fnExactThreeLayers", recurses := true, apart := false }
def FnExactThreeLayersSaid : Prop := fnExactThreeLayersRow.holds Try.pinned (OpenSpec.ofChange fnExactThreeLayersSpec)

/-- ITS FALSE NEIGHBOUR: 'it returns false'. Refute it at one input. -/
def fnExactThreeLayersWrong : ChangeSpec := { name := "fnExactThreeLayers", fn := fun _ => fun
  | [d1, d2, d3] => { results := [.lit (.bool false)], args := [d1, d2, d3] }
  | _ => none }
def FnExactThreeLayersWrongFalsely : Prop := fnExactThreeLayersRow.holds Try.pinned (OpenSpec.ofChange fnExactThreeLayersWrong)

/-- 'laws.FnExactPolySteps': WHATEVER THE INPUT: true; the input reads as it did. -/
def fnExactPolyStepsSpec : ChangeSpec := { name := "fnExactPolySteps", fn := fun _ => fun
  | [d1, d2] => { results := [.lit (.bool true)], args := [d1, d2] }
  | _ => none }
def fnExactPolyStepsRow : OpenClaim := { program := "ytknbnkfdkdhnkaa", sum := "f675f9154019bf0deb999a937f68d45c5cbd7c2196da12f0ef44ad607b20f3c7", func := "loop.example/g03204/laws.FnExactPolySteps", spec := "fnExactPolySteps", recurses := true, apart := false }
def FnExactPolyStepsSaid : Prop := fnExactPolyStepsRow.holds Try.pinned (OpenSpec.ofChange fnExactPolyStepsSpec)

/-- ITS FALSE NEIGHBOUR: 'it returns false'. Refute it at one input. -/
def fnExactPolyStepsWrong : ChangeSpec := { name := "fnExactPolySteps", fn := fun _ => fun
  | [d1, d2] => { results := [.lit (.bool false)], args := [d1, d2] }
  | _ => none }
def FnExactPolyStepsWrongFalsely : Prop := fnExactPolyStepsRow.holds Try.pinned (OpenSpec.ofChange fnExactPolyStepsWrong)

/-- 'laws.FnExactPhaseRhythm': WHATEVER THE INPUT: true; the input reads as it did. -/
def fnExactPhaseRhythmSpec : ChangeSpec := { name := "fnExactPhaseRhythm", fn := fun _ => fun
  | [d1, d2] => { results := [.lit (.bool true)], args := [d1, d2] }
  | _ => none }
def fnExactPhaseRhythmRow : OpenClaim := { program := "ytknbnkfdkdhnkaa", sum := "f675f9154019bf0deb999a937f68d45c5cbd7c2196da12f0ef44ad607b20f3c7", func := "loop.example/g03204/laws.FnExactPhaseRhythm", spec := "fnExactPhaseRhythm", unfollowed := true, recurses := true, apart := false }
def FnExactPhaseRhythmSaid : Prop := fnExactPhaseRhythmRow.holds Try.pinned (OpenSpec.ofChange fnExactPhaseRhythmSpec)

/-- ITS FALSE NEIGHBOUR: 'it returns false'. Refute it at one input. -/
def fnExactPhaseRhythmWrong : ChangeSpec := { name := "fnExactPhaseRhythm", fn := fun _ => fun
  | [d1, d2] => { results := [.lit (.bool false)], args := [d1, d2] }
  | _ => none }
def FnExactPhaseRhythmWrongFalsely : Prop := fnExactPhaseRhythmRow.holds Try.pinned (OpenSpec.ofChange fnExactPhaseRhythmWrong)

/-- 'laws.FnExactPhaseCounts': WHATEVER THE INPUT: true; the input reads as it did. -/
def fnExactPhaseCountsSpec : ChangeSpec := { name := "fnExactPhaseCounts", fn := fun _ => fun
  | [d] => { results := [.lit (.bool true)], args := [d] }
  | _ => none }
def fnExactPhaseCountsRow : OpenClaim := { program := "ytknbnkfdkdhnkaa", sum := "f675f9154019bf0deb999a937f68d45c5cbd7c2196da12f0ef44ad607b20f3c7", func := "loop.example/g03204/laws.FnExactPhaseCounts", spec := "fnExactPhaseCounts", unfollowed := true, recurses := true, apart := false }
def FnExactPhaseCountsSaid : Prop := fnExactPhaseCountsRow.holds Try.pinned (OpenSpec.ofChange fnExactPhaseCountsSpec)

/-- ITS FALSE NEIGHBOUR: 'it returns false'. Refute it at one input. -/
def fnExactPhaseCountsWrong : ChangeSpec := { name := "fnExactPhaseCounts", fn := fun _ => fun
  | [d] => { results := [.lit (.bool false)], args := [d] }
  | _ => none }
def FnExactPhaseCountsWrongFalsely : Prop := fnExactPhaseCountsRow.holds Try.pinned (OpenSpec.ofChange fnExactPhaseCountsWrong)

/-- 'laws.FnExactFullPhases': WHATEVER THE INPUT: true; the input reads as it did. -/
def fnExactFullPhasesSpec : ChangeSpec := { name := "fnExactFullPhases", fn := fun _ => fun
  | [d] => { results := [.lit (.bool true)], args := [d] }
  | _ => none }
def fnExactFullPhasesRow : OpenClaim := { program := "ytknbnkfdkdhnkaa", sum := "f675f9154019bf0deb999a937f68d45c5cbd7c2196da12f0ef44ad607b20f3c7", func := "loop.example/g03204/laws.FnExactFullPhases", spec := "fnExactFullPhases", unfollowed := true, recurses := true, apart := false }
def FnExactFullPhasesSaid : Prop := fnExactFullPhasesRow.holds Try.pinned (OpenSpec.ofChange fnExactFullPhasesSpec)

/-- ITS FALSE NEIGHBOUR: 'it returns false'. Refute it at one input. -/
def fnExactFullPhasesWrong : ChangeSpec := { name := "fnExactFullPhases", fn := fun _ => fun
  | [d] => { results := [.lit (.bool false)], args := [d] }
  | _ => none }
def FnExactFullPhasesWrongFalsely : Prop := fnExactFullPhasesRow.holds Try.pinned (OpenSpec.ofChange fnExactFullPhasesWrong)

/-- 'laws.FnExactThinnestPhase': WHATEVER THE INPUT: true; the input reads as it did. -/
def fnExactThinnestPhaseSpec : ChangeSpec := { name := "fnExactThinnestPhase", fn := fun _ => fun
  | [d] => { results := [.lit (.bool true)], args := [d] }
  | _ => none }
def fnExactThinnestPhaseRow : OpenClaim := { program := "ytknbnkfdkdhnkaa", sum := "f675f9154019bf0deb999a937f68d45c5cbd7c2196da12f0ef44ad607b20f3c7", func := "loop.example/g03204/laws.FnExactThinnestPhase", spec := "fnExactThinnestPhase", unfollowed := true, recurses := true, apart := false }
def FnExactThinnestPhaseSaid : Prop := fnExactThinnestPhaseRow.holds Try.pinned (OpenSpec.ofChange fnExactThinnestPhaseSpec)

/-- ITS FALSE NEIGHBOUR: 'it returns false'. Refute it at one input. -/
def fnExactThinnestPhaseWrong : ChangeSpec := { name := "fnExactThinnestPhase", fn := fun _ => fun
  | [d] => { results := [.lit (.bool false)], args := [d] }
  | _ => none }
def FnExactThinnestPhaseWrongFalsely : Prop := fnExactThinnestPhaseRow.holds Try.pinned (OpenSpec.ofChange fnExactThinnestPhaseWrong)

/-- 'laws.FnExactThickestPhase': WHATEVER THE INPUT: true; the input reads as it did. -/
def fnExactThickestPhaseSpec : ChangeSpec := { name := "fnExactThickestPhase", fn := fun _ => fun
  | [d] => { results := [.lit (.bool true)], args := [d] }
  | _ => none }
def fnExactThickestPhaseRow : OpenClaim := { program := "ytknbnkfdkdhnkaa", sum := "f675f9154019bf0deb999a937f68d45c5cbd7c2196da12f0ef44ad607b20f3c7", func := "loop.example/g03204/laws.FnExactThickestPhase", spec := "fnExactThickestPhase", unfollowed := true, recurses := true, apart := false }
def FnExactThickestPhaseSaid : Prop := fnExactThickestPhaseRow.holds Try.pinned (OpenSpec.ofChange fnExactThickestPhaseSpec)

/-- ITS FALSE NEIGHBOUR: 'it returns false'. Refute it at one input. -/
def fnExactThickestPhaseWrong : ChangeSpec := { name := "fnExactThickestPhase", fn := fun _ => fun
  | [d] => { results := [.lit (.bool false)], args := [d] }
  | _ => none }
def FnExactThickestPhaseWrongFalsely : Prop := fnExactThickestPhaseRow.holds Try.pinned (OpenSpec.ofChange fnExactThickestPhaseWrong)

/-- 'laws.FnExactProcessOf': WHATEVER THE INPUT: true; the input reads as it did. -/
def fnExactProcessOfSpec : ChangeSpec := { name := "fnExactProcessOf", fn := fun _ => fun
  | [d1, d2] => { results := [.lit (.bool true)], args := [d1, d2] }
  | _ => none }
def fnExactProcessOfRow : OpenClaim := { program := "ytknbnkfdkdhnkaa", sum := "f675f9154019bf0deb999a937f68d45c5cbd7c2196da12f0ef44ad607b20f3c7", func := "loop.example/g03204/laws.FnExactProcessOf", spec := "fnExactProcessOf", unfollowed := true, recurses := true, apart := false }
def FnExactProcessOfSaid : Prop := fnExactProcessOfRow.holds Try.pinned (OpenSpec.ofChange fnExactProcessOfSpec)

/-- ITS FALSE NEIGHBOUR: 'it returns false'. Refute it at one input. -/
def fnExactProcessOfWrong : ChangeSpec := { name := "fnExactProcessOf", fn := fun _ => fun
  | [d1, d2] => { results := [.lit (.bool false)], args := [d1, d2] }
  | _ => none }
def FnExactProcessOfWrongFalsely : Prop := fnExactProcessOfRow.holds Try.pinned (OpenSpec.ofChange fnExactProcessOfWrong)

/-- 'laws.FnExactPhaseBetween': WHATEVER THE INPUT: true; the input reads as it did. -/
def fnExactPhaseBetweenSpec : ChangeSpec := { name := "fnExactPhaseBetween", fn := fun _ => fun
  | [d1, d2] => { results := [.lit (.bool true)], args := [d1, d2] }
  | _ => none }
def fnExactPhaseBetweenRow : OpenClaim := { program := "ytknbnkfdkdhnkaa", sum := "f675f9154019bf0deb999a937f68d45c5cbd7c2196da12f0ef44ad607b20f3c7", func := "loop.example/g03204/laws.FnExactPhaseBetween", spec := "fnExactPhaseBetween", unfollowed := true, recurses := true, apart := false }
def FnExactPhaseBetweenSaid : Prop := fnExactPhaseBetweenRow.holds Try.pinned (OpenSpec.ofChange fnExactPhaseBetweenSpec)

/-- ITS FALSE NEIGHBOUR: 'it returns false'. Refute it at one input. -/
def fnExactPhaseBetweenWrong : ChangeSpec := { name := "fnExactPhaseBetween", fn := fun _ => fun
  | [d1, d2] => { results := [.lit (.bool false)], args := [d1, d2] }
  | _ => none }
def FnExactPhaseBetweenWrongFalsely : Prop := fnExactPhaseBetweenRow.holds Try.pinned (OpenSpec.ofChange fnExactPhaseBetweenWrong)

/- THE SECOND FORM. 'bulk': how many values and letters a reading holds, each counted each time it is reached (what is shared counts as often as it is met; a slice's spare places count too). A statement '..UptoSaid' is the law's where the arguments, and the package variables that the reading takes, are together of bulk at most 1048576: NARROWER than '..Said'. Prove '..Said' where nothing that the law and all that it calls make is longer than what came in: it says more and counts as full. Else prove '..UptoSaid'. A law counts once. -/
mutual
def uptoBulk {H : Type} : DataW H → Nat
  | .lit (.string bytes) => bytes.length + 1
  | .lit _ => 1
  | .nil => 1
  | .ptr d => uptoBulk d + 1
  | .slice elems spare => uptoBulkAll elems + uptoBulkAll spare + 1
  | .agg parts => uptoBulkAll parts + 1
  | .iface _ d => uptoBulk d + 1
  | .map entries => uptoBulkEntries entries + 1
  | .held _ => 1
def uptoBulkAll {H : Type} : List (DataW H) → Nat
  | [] => 0
  | d :: r => uptoBulk d + uptoBulkAll r
def uptoBulkEntries {H : Type} : List (Lit × DataW H) → Nat
  | [] => 0
  | x :: r => uptoBulkEntry x + uptoBulkEntries r
def uptoBulkEntry {H : Type} : Lit × DataW H → Nat
  | (.string bytes, d) => bytes.length + uptoBulk d + 1
  | (_, d) => uptoBulk d + 1
 end
def uptoSmall : (H : Type) → List (DataW H) → Bool := fun _ ds => decide (uptoBulkAll ds ≤ 1048576)
def OpenSpec.upto (s : _root_.Go.ChangeSpec) : _root_.Go.OpenSpec := { _root_.Go.OpenSpec.ofChange s with cond := some uptoSmall }

/-- 'laws.FnExactPolyRhythm', WHERE WHAT IT READS IS OF BULK AT MOST 1048576: true; the input reads as it did. -/
def fnExactPolyRhythmUptoRow : OpenClaim := { program := "ytknbnkfdkdhnkaa", sum := "f675f9154019bf0deb999a937f68d45c5cbd7c2196da12f0ef44ad607b20f3c7", func := "loop.example/g03204/laws.FnExactPolyRhythm", spec := "fnExactPolyRhythm", recurses := true, apart := false, narrowed := true }
def FnExactPolyRhythmUptoSaid : Prop := fnExactPolyRhythmUptoRow.holds Try.pinned (OpenSpec.upto fnExactPolyRhythmSpec)

/-- 'laws.FnExactMeetingsOf', WHERE WHAT IT READS IS OF BULK AT MOST 1048576: true; the input reads as it did. -/
def fnExactMeetingsOfUptoRow : OpenClaim := { program := "ytknbnkfdkdhnkaa", sum := "f675f9154019bf0deb999a937f68d45c5cbd7c2196da12f0ef44ad607b20f3c7", func := "loop.example/g03204/laws.FnExactMeetingsOf", spec := "fnExactMeetingsOf", unfollowed := true, recurses := true, apart := false, narrowed := true }
def FnExactMeetingsOfUptoSaid : Prop := fnExactMeetingsOfUptoRow.holds Try.pinned (OpenSpec.upto fnExactMeetingsOfSpec)

/-- 'laws.FnExactFirstMeeting', WHERE WHAT IT READS IS OF BULK AT MOST 1048576: true; the input reads as it did. -/
def fnExactFirstMeetingUptoRow : OpenClaim := { program := "ytknbnkfdkdhnkaa", sum := "f675f9154019bf0deb999a937f68d45c5cbd7c2196da12f0ef44ad607b20f3c7", func := "loop.example/g03204/laws.FnExactFirstMeeting", spec := "fnExactFirstMeeting", unfollowed := true, recurses := true, apart := false, narrowed := true }
def FnExactFirstMeetingUptoSaid : Prop := fnExactFirstMeetingUptoRow.holds Try.pinned (OpenSpec.upto fnExactFirstMeetingSpec)

/-- 'laws.FnExactThreeLayers', WHERE WHAT IT READS IS OF BULK AT MOST 1048576: true; the input reads as it did. -/
def fnExactThreeLayersUptoRow : OpenClaim := { program := "ytknbnkfdkdhnkaa", sum := "f675f9154019bf0deb999a937f68d45c5cbd7c2196da12f0ef44ad607b20f3c7", func := "loop.example/g03204/laws.FnExactThreeLayers", spec := "fnExactThreeLayers", recurses := true, apart := false, narrowed := true }
def FnExactThreeLayersUptoSaid : Prop := fnExactThreeLayersUptoRow.holds Try.pinned (OpenSpec.upto fnExactThreeLayersSpec)

/-- 'laws.FnExactPolySteps', WHERE WHAT IT READS IS OF BULK AT MOST 1048576: true; the input reads as it did. -/
def fnExactPolyStepsUptoRow : OpenClaim := { program := "ytknbnkfdkdhnkaa", sum := "f675f9154019bf0deb999a937f68d45c5cbd7c2196da12f0ef44ad607b20f3c7", func := "loop.example/g03204/laws.FnExactPolySteps", spec := "fnExactPolySteps", recurses := true, apart := false, narrowed := true }
def FnExactPolyStepsUptoSaid : Prop := fnExactPolyStepsUptoRow.holds Try.pinned (OpenSpec.upto fnExactPolyStepsSpec)

/-- 'laws.FnExactPhaseRhythm', WHERE WHAT IT READS IS OF BULK AT MOST 1048576: true; the input reads as it did. -/
def fnExactPhaseRhythmUptoRow : OpenClaim := { program := "ytknbnkfdkdhnkaa", sum := "f675f9154019bf0deb999a937f68d45c5cbd7c2196da12f0ef44ad607b20f3c7", func := "loop.example/g03204/laws.FnExactPhaseRhythm", spec := "fnExactPhaseRhythm", unfollowed := true, recurses := true, apart := false, narrowed := true }
def FnExactPhaseRhythmUptoSaid : Prop := fnExactPhaseRhythmUptoRow.holds Try.pinned (OpenSpec.upto fnExactPhaseRhythmSpec)

/-- 'laws.FnExactPhaseCounts', WHERE WHAT IT READS IS OF BULK AT MOST 1048576: true; the input reads as it did. -/
def fnExactPhaseCountsUptoRow : OpenClaim := { program := "ytknbnkfdkdhnkaa", sum := "f675f9154019bf0deb999a937f68d45c5cbd7c2196da12f0ef44ad607b20f3c7", func := "loop.example/g03204/laws.FnExactPhaseCounts", spec := "fnExactPhaseCounts", unfollowed := true, recurses := true, apart := false, narrowed := true }
def FnExactPhaseCountsUptoSaid : Prop := fnExactPhaseCountsUptoRow.holds Try.pinned (OpenSpec.upto fnExactPhaseCountsSpec)

/-- 'laws.FnExactFullPhases', WHERE WHAT IT READS IS OF BULK AT MOST 1048576: true; the input reads as it did. -/
def fnExactFullPhasesUptoRow : OpenClaim := { program := "ytknbnkfdkdhnkaa", sum := "f675f9154019bf0deb999a937f68d45c5cbd7c2196da12f0ef44ad607b20f3c7", func := "loop.example/g03204/laws.FnExactFullPhases", spec := "fnExactFullPhases", unfollowed := true, recurses := true, apart := false, narrowed := true }
def FnExactFullPhasesUptoSaid : Prop := fnExactFullPhasesUptoRow.holds Try.pinned (OpenSpec.upto fnExactFullPhasesSpec)

/-- 'laws.FnExactThinnestPhase', WHERE WHAT IT READS IS OF BULK AT MOST 1048576: true; the input reads as it did. -/
def fnExactThinnestPhaseUptoRow : OpenClaim := { program := "ytknbnkfdkdhnkaa", sum := "f675f9154019bf0deb999a937f68d45c5cbd7c2196da12f0ef44ad607b20f3c7", func := "loop.example/g03204/laws.FnExactThinnestPhase", spec := "fnExactThinnestPhase", unfollowed := true, recurses := true, apart := false, narrowed := true }
def FnExactThinnestPhaseUptoSaid : Prop := fnExactThinnestPhaseUptoRow.holds Try.pinned (OpenSpec.upto fnExactThinnestPhaseSpec)

/-- 'laws.FnExactThickestPhase', WHERE WHAT IT READS IS OF BULK AT MOST 1048576: true; the input reads as it did. -/
def fnExactThickestPhaseUptoRow : OpenClaim := { program := "ytknbnkfdkdhnkaa", sum := "f675f9154019bf0deb999a937f68d45c5cbd7c2196da12f0ef44ad607b20f3c7", func := "loop.example/g03204/laws.FnExactThickestPhase", spec := "fnExactThickestPhase", unfollowed := true, recurses := true, apart := false, narrowed := true }
def FnExactThickestPhaseUptoSaid : Prop := fnExactThickestPhaseUptoRow.holds Try.pinned (OpenSpec.upto fnExactThickestPhaseSpec)

/-- 'laws.FnExactProcessOf', WHERE WHAT IT READS IS OF BULK AT MOST 1048576: true; the input reads as it did. -/
def fnExactProcessOfUptoRow : OpenClaim := { program := "ytknbnkfdkdhnkaa", sum := "f675f9154019bf0deb999a937f68d45c5cbd7c2196da12f0ef44ad607b20f3c7", func := "loop.example/g03204/laws.FnExactProcessOf", spec := "fnExactProcessOf", unfollowed := true, recurses := true, apart := false, narrowed := true }
def FnExactProcessOfUptoSaid : Prop := fnExactProcessOfUptoRow.holds Try.pinned (OpenSpec.upto fnExactProcessOfSpec)

/-- 'laws.FnExactPhaseBetween', WHERE WHAT IT READS IS OF BULK AT MOST 1048576: true; the input reads as it did. -/
def fnExactPhaseBetweenUptoRow : OpenClaim := { program := "ytknbnkfdkdhnkaa", sum := "f675f9154019bf0deb999a937f68d45c5cbd7c2196da12f0ef44ad607b20f3c7", func := "loop.example/g03204/laws.FnExactPhaseBetween", spec := "fnExactPhaseBetween", unfollowed := true, recurses := true, apart := false, narrowed := true }
def FnExactPhaseBetweenUptoSaid : Prop := fnExactPhaseBetweenUptoRow.holds Try.pinned (OpenSpec.upto fnExactPhaseBetweenSpec)

end Rows
end Go.Proofs.Ytknbnkfdkdhnkaa
