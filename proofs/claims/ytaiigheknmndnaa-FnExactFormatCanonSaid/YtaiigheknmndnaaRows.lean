/-
  No cell of these rows narrows 'for every input' (looked for: loops, veiled, ifaces, maps, wideKeys, modest, calm, conditions, laid).
  DERIVED. THE GIVEN ROWS OF THIS SEAT. 8 by the template 'for every input the law returns true; each argument reads behind the call as it read before'; 0 by the template 'total and deterministic' (their statements: YtaiigheknmndnaaTotals.lean).
  GIVEN WITH THE SEED: the statements are not yours to turn. If you find one false, say at which input.
  Laid BY PROGRAM, IN A SANDBOX (cutbox-rows.mjs): the forced cells as the released guide's own fill.sh prints them over the translation 2a89735c05e6f2ae… (all of the seat's roots in one cut). By AI agents, Wed Nov 11 2026. No macro, syntax, notation, axiom, sorry.
-/
import Derived.Test.YtaiigheknmndnaaChecked
import GoSem.Claim
import GoSem.ClaimJoined
import GoSem.ClaimMapViews
import Derived.JoinedTies
import Derived.KernelRfl
namespace Go.Proofs.Ytaiigheknmndnaa
/- THE CELL 'sum', in the pinned program and in every row, IS THE sha256 OF THE DUMP (.gsa) THAT YtaiigheknmndnaaProg.lean LOADS. Nothing in Lean hashes anything: it is a label: what it is worth is what the hold of that sum in a sandbox is worth. -/
noncomputable def Try.pinned : Pinned := { name := "ytaiigheknmndnaa", sum := "2a89735c05e6f2ae4d981ee42fc1f80e95aebec6adeb8f06f69850a58aa2c83f", checked := Try.checked }
namespace Rows
def none {H : Type} : Left H := { results := [], args := [] }

/-- 'laws.FnExactLineOf': WHATEVER THE INPUT: true; the input reads as it did. -/
def fnExactLineOfSpec : ChangeSpec := { name := "fnExactLineOf", fn := fun _ => fun
  | [d] => { results := [.lit (.bool true)], args := [d] }
  | _ => none }
def fnExactLineOfRow : OpenClaim := { program := "ytaiigheknmndnaa", sum := "2a89735c05e6f2ae4d981ee42fc1f80e95aebec6adeb8f06f69850a58aa2c83f", func := "loop.example/g03204/laws.FnExactLineOf", spec := "fnExactLineOf", apart := false }
def FnExactLineOfSaid : Prop := fnExactLineOfRow.holds Try.pinned (OpenSpec.ofChange fnExactLineOfSpec)

/-- ITS FALSE NEIGHBOUR: 'it returns false'. Refute it at one input. -/
def fnExactLineOfWrong : ChangeSpec := { name := "fnExactLineOf", fn := fun _ => fun
  | [d] => { results := [.lit (.bool false)], args := [d] }
  | _ => none }
def FnExactLineOfWrongFalsely : Prop := fnExactLineOfRow.holds Try.pinned (OpenSpec.ofChange fnExactLineOfWrong)

/-- 'laws.FnExactVoiceRhythm': WHATEVER THE INPUT: true; the input reads as it did. -/
def fnExactVoiceRhythmSpec : ChangeSpec := { name := "fnExactVoiceRhythm", fn := fun _ => fun
  | [d1, d2] => { results := [.lit (.bool true)], args := [d1, d2] }
  | _ => none }
def fnExactVoiceRhythmRow : OpenClaim := { program := "ytaiigheknmndnaa", sum := "2a89735c05e6f2ae4d981ee42fc1f80e95aebec6adeb8f06f69850a58aa2c83f", func := "loop.example/g03204/laws.FnExactVoiceRhythm", spec := "fnExactVoiceRhythm", unfollowed := true, recurses := true, apart := false }
def FnExactVoiceRhythmSaid : Prop := fnExactVoiceRhythmRow.holds Try.pinned (OpenSpec.ofChange fnExactVoiceRhythmSpec)

/-- ITS FALSE NEIGHBOUR: 'it returns false'. Refute it at one input. -/
def fnExactVoiceRhythmWrong : ChangeSpec := { name := "fnExactVoiceRhythm", fn := fun _ => fun
  | [d1, d2] => { results := [.lit (.bool false)], args := [d1, d2] }
  | _ => none }
def FnExactVoiceRhythmWrongFalsely : Prop := fnExactVoiceRhythmRow.holds Try.pinned (OpenSpec.ofChange fnExactVoiceRhythmWrong)

/-- 'laws.FnExactExchangeCanon': WHATEVER THE INPUT: true; the input reads as it did. -/
def fnExactExchangeCanonSpec : ChangeSpec := { name := "fnExactExchangeCanon", fn := fun _ => fun
  | [d] => { results := [.lit (.bool true)], args := [d] }
  | _ => none }
def fnExactExchangeCanonRow : OpenClaim := { program := "ytaiigheknmndnaa", sum := "2a89735c05e6f2ae4d981ee42fc1f80e95aebec6adeb8f06f69850a58aa2c83f", func := "loop.example/g03204/laws.FnExactExchangeCanon", spec := "fnExactExchangeCanon", unfollowed := true, recurses := true, apart := false }
def FnExactExchangeCanonSaid : Prop := fnExactExchangeCanonRow.holds Try.pinned (OpenSpec.ofChange fnExactExchangeCanonSpec)

/-- ITS FALSE NEIGHBOUR: 'it returns false'. Refute it at one input. -/
def fnExactExchangeCanonWrong : ChangeSpec := { name := "fnExactExchangeCanon", fn := fun _ => fun
  | [d] => { results := [.lit (.bool false)], args := [d] }
  | _ => none }
def FnExactExchangeCanonWrongFalsely : Prop := fnExactExchangeCanonRow.holds Try.pinned (OpenSpec.ofChange fnExactExchangeCanonWrong)

/-- 'laws.FnExactRotateCanon': WHATEVER THE INPUT: true; the input reads as it did. -/
def fnExactRotateCanonSpec : ChangeSpec := { name := "fnExactRotateCanon", fn := fun _ => fun
  | [d1, d2, d3] => { results := [.lit (.bool true)], args := [d1, d2, d3] }
  | _ => none }
def fnExactRotateCanonRow : OpenClaim := { program := "ytaiigheknmndnaa", sum := "2a89735c05e6f2ae4d981ee42fc1f80e95aebec6adeb8f06f69850a58aa2c83f", func := "loop.example/g03204/laws.FnExactRotateCanon", spec := "fnExactRotateCanon", unfollowed := true, recurses := true, apart := false }
def FnExactRotateCanonSaid : Prop := fnExactRotateCanonRow.holds Try.pinned (OpenSpec.ofChange fnExactRotateCanonSpec)

/-- ITS FALSE NEIGHBOUR: 'it returns false'. Refute it at one input. -/
def fnExactRotateCanonWrong : ChangeSpec := { name := "fnExactRotateCanon", fn := fun _ => fun
  | [d1, d2, d3] => { results := [.lit (.bool false)], args := [d1, d2, d3] }
  | _ => none }
def FnExactRotateCanonWrongFalsely : Prop := fnExactRotateCanonRow.holds Try.pinned (OpenSpec.ofChange fnExactRotateCanonWrong)

/-- 'laws.FnExactStretchCanon': WHATEVER THE INPUT: true; the input reads as it did. -/
def fnExactStretchCanonSpec : ChangeSpec := { name := "fnExactStretchCanon", fn := fun _ => fun
  | [d1, d2] => { results := [.lit (.bool true)], args := [d1, d2] }
  | _ => none }
def fnExactStretchCanonRow : OpenClaim := { program := "ytaiigheknmndnaa", sum := "2a89735c05e6f2ae4d981ee42fc1f80e95aebec6adeb8f06f69850a58aa2c83f", func := "loop.example/g03204/laws.FnExactStretchCanon", spec := "fnExactStretchCanon", unfollowed := true, recurses := true, apart := false }
def FnExactStretchCanonSaid : Prop := fnExactStretchCanonRow.holds Try.pinned (OpenSpec.ofChange fnExactStretchCanonSpec)

/-- ITS FALSE NEIGHBOUR: 'it returns false'. Refute it at one input. -/
def fnExactStretchCanonWrong : ChangeSpec := { name := "fnExactStretchCanon", fn := fun _ => fun
  | [d1, d2] => { results := [.lit (.bool false)], args := [d1, d2] }
  | _ => none }
def FnExactStretchCanonWrongFalsely : Prop := fnExactStretchCanonRow.holds Try.pinned (OpenSpec.ofChange fnExactStretchCanonWrong)

/-- 'laws.FnExactFormatCanon': WHATEVER THE INPUT: true; the input reads as it did. -/
def fnExactFormatCanonSpec : ChangeSpec := { name := "fnExactFormatCanon", fn := fun _ => fun
  | [d] => { results := [.lit (.bool true)], args := [d] }
  | _ => none }
def fnExactFormatCanonRow : OpenClaim := { program := "ytaiigheknmndnaa", sum := "2a89735c05e6f2ae4d981ee42fc1f80e95aebec6adeb8f06f69850a58aa2c83f", func := "loop.example/g03204/laws.FnExactFormatCanon", spec := "fnExactFormatCanon", inPlace := ["internal/bytealg.MakeNoZero"], unfollowed := true, recurses := true, apart := false }
def FnExactFormatCanonSaid : Prop := fnExactFormatCanonRow.holds Try.pinned (OpenSpec.ofChange fnExactFormatCanonSpec)

/-- ITS FALSE NEIGHBOUR: 'it returns false'. Refute it at one input. -/
def fnExactFormatCanonWrong : ChangeSpec := { name := "fnExactFormatCanon", fn := fun _ => fun
  | [d] => { results := [.lit (.bool false)], args := [d] }
  | _ => none }
def FnExactFormatCanonWrongFalsely : Prop := fnExactFormatCanonRow.holds Try.pinned (OpenSpec.ofChange fnExactFormatCanonWrong)

/-- 'laws.FnExactLineTiling': WHATEVER THE INPUT: true; the input reads as it did. -/
def fnExactLineTilingSpec : ChangeSpec := { name := "fnExactLineTiling", fn := fun _ => fun
  | [d] => { results := [.lit (.bool true)], args := [d] }
  | _ => none }
def fnExactLineTilingRow : OpenClaim := { program := "ytaiigheknmndnaa", sum := "2a89735c05e6f2ae4d981ee42fc1f80e95aebec6adeb8f06f69850a58aa2c83f", func := "loop.example/g03204/laws.FnExactLineTiling", spec := "fnExactLineTiling", recurses := true, apart := false }
def FnExactLineTilingSaid : Prop := fnExactLineTilingRow.holds Try.pinned (OpenSpec.ofChange fnExactLineTilingSpec)

/-- ITS FALSE NEIGHBOUR: 'it returns false'. Refute it at one input. -/
def fnExactLineTilingWrong : ChangeSpec := { name := "fnExactLineTiling", fn := fun _ => fun
  | [d] => { results := [.lit (.bool false)], args := [d] }
  | _ => none }
def FnExactLineTilingWrongFalsely : Prop := fnExactLineTilingRow.holds Try.pinned (OpenSpec.ofChange fnExactLineTilingWrong)

/-- 'laws.FnExactCountPhases': WHATEVER THE INPUT: true; the input reads as it did. -/
def fnExactCountPhasesSpec : ChangeSpec := { name := "fnExactCountPhases", fn := fun _ => fun
  | [d] => { results := [.lit (.bool true)], args := [d] }
  | _ => none }
def fnExactCountPhasesRow : OpenClaim := { program := "ytaiigheknmndnaa", sum := "2a89735c05e6f2ae4d981ee42fc1f80e95aebec6adeb8f06f69850a58aa2c83f", func := "loop.example/g03204/laws.FnExactCountPhases", spec := "fnExactCountPhases", unfollowed := true, recurses := true, apart := false }
def FnExactCountPhasesSaid : Prop := fnExactCountPhasesRow.holds Try.pinned (OpenSpec.ofChange fnExactCountPhasesSpec)

/-- ITS FALSE NEIGHBOUR: 'it returns false'. Refute it at one input. -/
def fnExactCountPhasesWrong : ChangeSpec := { name := "fnExactCountPhases", fn := fun _ => fun
  | [d] => { results := [.lit (.bool false)], args := [d] }
  | _ => none }
def FnExactCountPhasesWrongFalsely : Prop := fnExactCountPhasesRow.holds Try.pinned (OpenSpec.ofChange fnExactCountPhasesWrong)

/- THE SECOND FORM. 'bulk': how many values and letters a reading holds, each counted each time it is reached (what is shared counts as often as it is met; a slice's spare places count too). A statement '..UptoSaid' is the law's where the arguments, and the package variables that the reading takes, are together of bulk at most 1048576: NARROWER than '..Said'. Prove '..Said' where nothing that the law and all that it calls make is longer than what came in: it says more and counts as full. Else prove '..UptoSaid'. A law counts once. -/
mutual
def uptoBulk {H : Type} : DataW H → Nat
  | .lit (.string bytes) => bytes.length + 1
  | .lit _ => 1
  | .nil => 1
  | .ptr d => uptoBulk d + 1
  | .slice elems spare => uptoBulkAll elems + uptoBulkAll spare + 1
  | .agg parts => uptoBulkAll parts + 1
  | .iface _ d => uptoBulk d + 1
  | .map entries => uptoBulkEntries entries + 1
  | .held _ => 1
def uptoBulkAll {H : Type} : List (DataW H) → Nat
  | [] => 0
  | d :: r => uptoBulk d + uptoBulkAll r
def uptoBulkEntries {H : Type} : List (Lit × DataW H) → Nat
  | [] => 0
  | x :: r => uptoBulkEntry x + uptoBulkEntries r
def uptoBulkEntry {H : Type} : Lit × DataW H → Nat
  | (.string bytes, d) => bytes.length + uptoBulk d + 1
  | (_, d) => uptoBulk d + 1
 end
def uptoSmall : (H : Type) → List (DataW H) → Bool := fun _ ds => decide (uptoBulkAll ds ≤ 1048576)
def OpenSpec.upto (s : _root_.Go.ChangeSpec) : _root_.Go.OpenSpec := { _root_.Go.OpenSpec.ofChange s with cond := some uptoSmall }

/-- 'laws.FnExactLineOf', WHERE WHAT IT READS IS OF BULK AT MOST 1048576: true; the input reads as it did. -/
def fnExactLineOfUptoRow : OpenClaim := { program := "ytaiigheknmndnaa", sum := "2a89735c05e6f2ae4d981ee42fc1f80e95aebec6adeb8f06f69850a58aa2c83f", func := "loop.example/g03204/laws.FnExactLineOf", spec := "fnExactLineOf", apart := false, narrowed := true }
def FnExactLineOfUptoSaid : Prop := fnExactLineOfUptoRow.holds Try.pinned (OpenSpec.upto fnExactLineOfSpec)

/-- 'laws.FnExactVoiceRhythm', WHERE WHAT IT READS IS OF BULK AT MOST 1048576: true; the input reads as it did. -/
def fnExactVoiceRhythmUptoRow : OpenClaim := { program := "ytaiigheknmndnaa", sum := "2a89735c05e6f2ae4d981ee42fc1f80e95aebec6adeb8f06f69850a58aa2c83f", func := "loop.example/g03204/laws.FnExactVoiceRhythm", spec := "fnExactVoiceRhythm", unfollowed := true, recurses := true, apart := false, narrowed := true }
def FnExactVoiceRhythmUptoSaid : Prop := fnExactVoiceRhythmUptoRow.holds Try.pinned (OpenSpec.upto fnExactVoiceRhythmSpec)

/-- 'laws.FnExactExchangeCanon', WHERE WHAT IT READS IS OF BULK AT MOST 1048576: true; the input reads as it did. -/
def fnExactExchangeCanonUptoRow : OpenClaim := { program := "ytaiigheknmndnaa", sum := "2a89735c05e6f2ae4d981ee42fc1f80e95aebec6adeb8f06f69850a58aa2c83f", func := "loop.example/g03204/laws.FnExactExchangeCanon", spec := "fnExactExchangeCanon", unfollowed := true, recurses := true, apart := false, narrowed := true }
def FnExactExchangeCanonUptoSaid : Prop := fnExactExchangeCanonUptoRow.holds Try.pinned (OpenSpec.upto fnExactExchangeCanonSpec)

/-- 'laws.FnExactRotateCanon', WHERE WHAT IT READS IS OF BULK AT MOST 1048576: true; the input reads as it did. -/
def fnExactRotateCanonUptoRow : OpenClaim := { program := "ytaiigheknmndnaa", sum := "2a89735c05e6f2ae4d981ee42fc1f80e95aebec6adeb8f06f69850a58aa2c83f", func := "loop.example/g03204/laws.FnExactRotateCanon", spec := "fnExactRotateCanon", unfollowed := true, recurses := true, apart := false, narrowed := true }
def FnExactRotateCanonUptoSaid : Prop := fnExactRotateCanonUptoRow.holds Try.pinned (OpenSpec.upto fnExactRotateCanonSpec)

/-- 'laws.FnExactStretchCanon', WHERE WHAT IT READS IS OF BULK AT MOST 1048576: true; the input reads as it did. -/
def fnExactStretchCanonUptoRow : OpenClaim := { program := "ytaiigheknmndnaa", sum := "2a89735c05e6f2ae4d981ee42fc1f80e95aebec6adeb8f06f69850a58aa2c83f", func := "loop.example/g03204/laws.FnExactStretchCanon", spec := "fnExactStretchCanon", unfollowed := true, recurses := true, apart := false, narrowed := true }
def FnExactStretchCanonUptoSaid : Prop := fnExactStretchCanonUptoRow.holds Try.pinned (OpenSpec.upto fnExactStretchCanonSpec)

/-- 'laws.FnExactFormatCanon', WHERE WHAT IT READS IS OF BULK AT MOST 1048576: true; the input reads as it did. -/
def fnExactFormatCanonUptoRow : OpenClaim := { program := "ytaiigheknmndnaa", sum := "2a89735c05e6f2ae4d981ee42fc1f80e95aebec6adeb8f06f69850a58aa2c83f", func := "loop.example/g03204/laws.FnExactFormatCanon", spec := "fnExactFormatCanon", inPlace := ["internal/bytealg.MakeNoZero"], unfollowed := true, recurses := true, apart := false, narrowed := true }
def FnExactFormatCanonUptoSaid : Prop := fnExactFormatCanonUptoRow.holds Try.pinned (OpenSpec.upto fnExactFormatCanonSpec)

/-- 'laws.FnExactLineTiling', WHERE WHAT IT READS IS OF BULK AT MOST 1048576: true; the input reads as it did. -/
def fnExactLineTilingUptoRow : OpenClaim := { program := "ytaiigheknmndnaa", sum := "2a89735c05e6f2ae4d981ee42fc1f80e95aebec6adeb8f06f69850a58aa2c83f", func := "loop.example/g03204/laws.FnExactLineTiling", spec := "fnExactLineTiling", recurses := true, apart := false, narrowed := true }
def FnExactLineTilingUptoSaid : Prop := fnExactLineTilingUptoRow.holds Try.pinned (OpenSpec.upto fnExactLineTilingSpec)

/-- 'laws.FnExactCountPhases', WHERE WHAT IT READS IS OF BULK AT MOST 1048576: true; the input reads as it did. -/
def fnExactCountPhasesUptoRow : OpenClaim := { program := "ytaiigheknmndnaa", sum := "2a89735c05e6f2ae4d981ee42fc1f80e95aebec6adeb8f06f69850a58aa2c83f", func := "loop.example/g03204/laws.FnExactCountPhases", spec := "fnExactCountPhases", unfollowed := true, recurses := true, apart := false, narrowed := true }
def FnExactCountPhasesUptoSaid : Prop := fnExactCountPhasesUptoRow.holds Try.pinned (OpenSpec.upto fnExactCountPhasesSpec)

end Rows
end Go.Proofs.Ytaiigheknmndnaa
