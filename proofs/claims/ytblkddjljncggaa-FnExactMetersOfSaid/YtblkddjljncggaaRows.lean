/-
  No cell of these rows narrows 'for every input' (looked for: loops, veiled, ifaces, maps, wideKeys, modest, calm, conditions, laid).
  DERIVED. THE GIVEN ROWS OF THIS SEAT. 7 by the template 'for every input the law returns true; each argument reads behind the call as it read before'; 0 by the template 'total and deterministic' (their statements: YtblkddjljncggaaTotals.lean).
  GIVEN WITH THE SEED: the statements are not yours to turn. If you find one false, say at which input.
  Laid BY PROGRAM, IN A SANDBOX (cutbox-rows.mjs): the forced cells as the released guide's own fill.sh prints them over the translation 47888787163ad31a… (all of the seat's roots in one cut). By AI agents, Wed Nov 11 2026. No macro, syntax, notation, axiom, sorry.
-/
import Derived.Test.YtblkddjljncggaaChecked
import GoSem.Claim
import GoSem.ClaimJoined
import GoSem.ClaimMapViews
import Derived.JoinedTies
import Derived.KernelRfl
namespace Go.Proofs.Ytblkddjljncggaa
/- THE CELL 'sum', in the pinned program and in every row, IS THE sha256 OF THE DUMP (.gsa) THAT YtblkddjljncggaaProg.lean LOADS. Nothing in Lean hashes anything: it is a label: what it is worth is what the hold of that sum in a sandbox is worth. -/
noncomputable def Try.pinned : Pinned := { name := "ytblkddjljncggaa", sum := "47888787163ad31a4e148633b196c9079338cfb6898bb7b6831ad4f36392c39a", checked := Try.checked }
namespace Rows
def none {H : Type} : Left H := { results := [], args := [] }

/-- 'laws.FnExactLayerOf': WHATEVER THE INPUT: true; the input reads as it did. -/
def fnExactLayerOfSpec : ChangeSpec := { name := "fnExactLayerOf", fn := fun _ => fun
  | [d1, d2] => { results := [.lit (.bool true)], args := [d1, d2] }
  | _ => none }
def fnExactLayerOfRow : OpenClaim := { program := "ytblkddjljncggaa", sum := "47888787163ad31a4e148633b196c9079338cfb6898bb7b6831ad4f36392c39a", func := "loop.example/g03204/laws.FnExactLayerOf", spec := "fnExactLayerOf", apart := false }
def FnExactLayerOfSaid : Prop := fnExactLayerOfRow.holds Try.pinned (OpenSpec.ofChange fnExactLayerOfSpec)

/-- ITS FALSE NEIGHBOUR: 'it returns false'. Refute it at one input. -/
def fnExactLayerOfWrong : ChangeSpec := { name := "fnExactLayerOf", fn := fun _ => fun
  | [d1, d2] => { results := [.lit (.bool false)], args := [d1, d2] }
  | _ => none }
def FnExactLayerOfWrongFalsely : Prop := fnExactLayerOfRow.holds Try.pinned (OpenSpec.ofChange fnExactLayerOfWrong)

/-- 'laws.FnExactPolyText': WHATEVER THE INPUT: true; the input reads as it did. -/
def fnExactPolyTextSpec : ChangeSpec := { name := "fnExactPolyText", fn := fun _ => fun
  | [d1, d2] => { results := [.lit (.bool true)], args := [d1, d2] }
  | _ => none }
def fnExactPolyTextRow : OpenClaim := { program := "ytblkddjljncggaa", sum := "47888787163ad31a4e148633b196c9079338cfb6898bb7b6831ad4f36392c39a", func := "loop.example/g03204/laws.FnExactPolyText", spec := "fnExactPolyText", apart := false }
def FnExactPolyTextSaid : Prop := fnExactPolyTextRow.holds Try.pinned (OpenSpec.ofChange fnExactPolyTextSpec)

/-- ITS FALSE NEIGHBOUR: 'it returns false'. Refute it at one input. -/
def fnExactPolyTextWrong : ChangeSpec := { name := "fnExactPolyText", fn := fun _ => fun
  | [d1, d2] => { results := [.lit (.bool false)], args := [d1, d2] }
  | _ => none }
def FnExactPolyTextWrongFalsely : Prop := fnExactPolyTextRow.holds Try.pinned (OpenSpec.ofChange fnExactPolyTextWrong)

/-- 'laws.FnExactMetersOf': WHATEVER THE INPUT: true; the input reads as it did. -/
def fnExactMetersOfSpec : ChangeSpec := { name := "fnExactMetersOf", fn := fun _ => fun
  | [d] => { results := [.lit (.bool true)], args := [d] }
  | _ => none }
def fnExactMetersOfRow : OpenClaim := { program := "ytblkddjljncggaa", sum := "47888787163ad31a4e148633b196c9079338cfb6898bb7b6831ad4f36392c39a", func := "loop.example/g03204/laws.FnExactMetersOf", spec := "fnExactMetersOf", recurses := true, apart := false }
def FnExactMetersOfSaid : Prop := fnExactMetersOfRow.holds Try.pinned (OpenSpec.ofChange fnExactMetersOfSpec)

/-- ITS FALSE NEIGHBOUR: 'it returns false'. Refute it at one input. -/
def fnExactMetersOfWrong : ChangeSpec := { name := "fnExactMetersOf", fn := fun _ => fun
  | [d] => { results := [.lit (.bool false)], args := [d] }
  | _ => none }
def FnExactMetersOfWrongFalsely : Prop := fnExactMetersOfRow.holds Try.pinned (OpenSpec.ofChange fnExactMetersOfWrong)

/-- 'laws.FnExactWeightsOf': WHATEVER THE INPUT: true; the input reads as it did. -/
def fnExactWeightsOfSpec : ChangeSpec := { name := "fnExactWeightsOf", fn := fun _ => fun
  | [d] => { results := [.lit (.bool true)], args := [d] }
  | _ => none }
def fnExactWeightsOfRow : OpenClaim := { program := "ytblkddjljncggaa", sum := "47888787163ad31a4e148633b196c9079338cfb6898bb7b6831ad4f36392c39a", func := "loop.example/g03204/laws.FnExactWeightsOf", spec := "fnExactWeightsOf", unfollowed := true, recurses := true, apart := false }
def FnExactWeightsOfSaid : Prop := fnExactWeightsOfRow.holds Try.pinned (OpenSpec.ofChange fnExactWeightsOfSpec)

/-- ITS FALSE NEIGHBOUR: 'it returns false'. Refute it at one input. -/
def fnExactWeightsOfWrong : ChangeSpec := { name := "fnExactWeightsOf", fn := fun _ => fun
  | [d] => { results := [.lit (.bool false)], args := [d] }
  | _ => none }
def FnExactWeightsOfWrongFalsely : Prop := fnExactWeightsOfRow.holds Try.pinned (OpenSpec.ofChange fnExactWeightsOfWrong)

/-- 'laws.FnExactBeginsOf': WHATEVER THE INPUT: true; the input reads as it did. -/
def fnExactBeginsOfSpec : ChangeSpec := { name := "fnExactBeginsOf", fn := fun _ => fun
  | [d1, d2] => { results := [.lit (.bool true)], args := [d1, d2] }
  | _ => none }
def fnExactBeginsOfRow : OpenClaim := { program := "ytblkddjljncggaa", sum := "47888787163ad31a4e148633b196c9079338cfb6898bb7b6831ad4f36392c39a", func := "loop.example/g03204/laws.FnExactBeginsOf", spec := "fnExactBeginsOf", unfollowed := true, recurses := true, apart := false }
def FnExactBeginsOfSaid : Prop := fnExactBeginsOfRow.holds Try.pinned (OpenSpec.ofChange fnExactBeginsOfSpec)

/-- ITS FALSE NEIGHBOUR: 'it returns false'. Refute it at one input. -/
def fnExactBeginsOfWrong : ChangeSpec := { name := "fnExactBeginsOf", fn := fun _ => fun
  | [d1, d2] => { results := [.lit (.bool false)], args := [d1, d2] }
  | _ => none }
def FnExactBeginsOfWrongFalsely : Prop := fnExactBeginsOfRow.holds Try.pinned (OpenSpec.ofChange fnExactBeginsOfWrong)

/-- 'laws.FnExactScoreIn': WHATEVER THE INPUT: true; the input reads as it did. -/
def fnExactScoreInSpec : ChangeSpec := { name := "fnExactScoreIn", fn := fun _ => fun
  | [d1, d2] => { results := [.lit (.bool true)], args := [d1, d2] }
  | _ => none }
def fnExactScoreInRow : OpenClaim := { program := "ytblkddjljncggaa", sum := "47888787163ad31a4e148633b196c9079338cfb6898bb7b6831ad4f36392c39a", func := "loop.example/g03204/laws.FnExactScoreIn", spec := "fnExactScoreIn", unfollowed := true, recurses := true, apart := false }
def FnExactScoreInSaid : Prop := fnExactScoreInRow.holds Try.pinned (OpenSpec.ofChange fnExactScoreInSpec)

/-- ITS FALSE NEIGHBOUR: 'it returns false'. Refute it at one input. -/
def fnExactScoreInWrong : ChangeSpec := { name := "fnExactScoreIn", fn := fun _ => fun
  | [d1, d2] => { results := [.lit (.bool false)], args := [d1, d2] }
  | _ => none }
def FnExactScoreInWrongFalsely : Prop := fnExactScoreInRow.holds Try.pinned (OpenSpec.ofChange fnExactScoreInWrong)

/-- 'laws.FnExactSyncopationOf': WHATEVER THE INPUT: true; the input reads as it did. -/
def fnExactSyncopationOfSpec : ChangeSpec := { name := "fnExactSyncopationOf", fn := fun _ => fun
  | [d1, d2] => { results := [.lit (.bool true)], args := [d1, d2] }
  | _ => none }
def fnExactSyncopationOfRow : OpenClaim := { program := "ytblkddjljncggaa", sum := "47888787163ad31a4e148633b196c9079338cfb6898bb7b6831ad4f36392c39a", func := "loop.example/g03204/laws.FnExactSyncopationOf", spec := "fnExactSyncopationOf", unfollowed := true, recurses := true, apart := false }
def FnExactSyncopationOfSaid : Prop := fnExactSyncopationOfRow.holds Try.pinned (OpenSpec.ofChange fnExactSyncopationOfSpec)

/-- ITS FALSE NEIGHBOUR: 'it returns false'. Refute it at one input. -/
def fnExactSyncopationOfWrong : ChangeSpec := { name := "fnExactSyncopationOf", fn := fun _ => fun
  | [d1, d2] => { results := [.lit (.bool false)], args := [d1, d2] }
  | _ => none }
def FnExactSyncopationOfWrongFalsely : Prop := fnExactSyncopationOfRow.holds Try.pinned (OpenSpec.ofChange fnExactSyncopationOfWrong)

/- THE SECOND FORM. 'bulk': how many values and letters a reading holds, each counted each time it is reached (what is shared counts as often as it is met; a slice's spare places count too). A statement '..UptoSaid' is the law's where the arguments, and the package variables that the reading takes, are together of bulk at most 1048576: NARROWER than '..Said'. Prove '..Said' where nothing that the law and all that it calls make is longer than what came in: it says more and counts as full. Else prove '..UptoSaid'. A law counts once. -/
mutual
def uptoBulk {H : Type} : DataW H → Nat
  | .lit (.string bytes) => bytes.length + 1
  | .lit _ => 1
  | .nil => 1
  | .ptr d => uptoBulk d + 1
  | .slice elems spare => uptoBulkAll elems + uptoBulkAll spare + 1
  | .agg parts => uptoBulkAll parts + 1
  | .iface _ d => uptoBulk d + 1
  | .map entries => uptoBulkEntries entries + 1
  | .held _ => 1
def uptoBulkAll {H : Type} : List (DataW H) → Nat
  | [] => 0
  | d :: r => uptoBulk d + uptoBulkAll r
def uptoBulkEntries {H : Type} : List (Lit × DataW H) → Nat
  | [] => 0
  | x :: r => uptoBulkEntry x + uptoBulkEntries r
def uptoBulkEntry {H : Type} : Lit × DataW H → Nat
  | (.string bytes, d) => bytes.length + uptoBulk d + 1
  | (_, d) => uptoBulk d + 1
 end
def uptoSmall : (H : Type) → List (DataW H) → Bool := fun _ ds => decide (uptoBulkAll ds ≤ 1048576)
def OpenSpec.upto (s : _root_.Go.ChangeSpec) : _root_.Go.OpenSpec := { _root_.Go.OpenSpec.ofChange s with cond := some uptoSmall }

/-- 'laws.FnExactLayerOf', WHERE WHAT IT READS IS OF BULK AT MOST 1048576: true; the input reads as it did. -/
def fnExactLayerOfUptoRow : OpenClaim := { program := "ytblkddjljncggaa", sum := "47888787163ad31a4e148633b196c9079338cfb6898bb7b6831ad4f36392c39a", func := "loop.example/g03204/laws.FnExactLayerOf", spec := "fnExactLayerOf", apart := false, narrowed := true }
def FnExactLayerOfUptoSaid : Prop := fnExactLayerOfUptoRow.holds Try.pinned (OpenSpec.upto fnExactLayerOfSpec)

/-- 'laws.FnExactPolyText', WHERE WHAT IT READS IS OF BULK AT MOST 1048576: true; the input reads as it did. -/
def fnExactPolyTextUptoRow : OpenClaim := { program := "ytblkddjljncggaa", sum := "47888787163ad31a4e148633b196c9079338cfb6898bb7b6831ad4f36392c39a", func := "loop.example/g03204/laws.FnExactPolyText", spec := "fnExactPolyText", apart := false, narrowed := true }
def FnExactPolyTextUptoSaid : Prop := fnExactPolyTextUptoRow.holds Try.pinned (OpenSpec.upto fnExactPolyTextSpec)

/-- 'laws.FnExactMetersOf', WHERE WHAT IT READS IS OF BULK AT MOST 1048576: true; the input reads as it did. -/
def fnExactMetersOfUptoRow : OpenClaim := { program := "ytblkddjljncggaa", sum := "47888787163ad31a4e148633b196c9079338cfb6898bb7b6831ad4f36392c39a", func := "loop.example/g03204/laws.FnExactMetersOf", spec := "fnExactMetersOf", recurses := true, apart := false, narrowed := true }
def FnExactMetersOfUptoSaid : Prop := fnExactMetersOfUptoRow.holds Try.pinned (OpenSpec.upto fnExactMetersOfSpec)

/-- 'laws.FnExactWeightsOf', WHERE WHAT IT READS IS OF BULK AT MOST 1048576: true; the input reads as it did. -/
def fnExactWeightsOfUptoRow : OpenClaim := { program := "ytblkddjljncggaa", sum := "47888787163ad31a4e148633b196c9079338cfb6898bb7b6831ad4f36392c39a", func := "loop.example/g03204/laws.FnExactWeightsOf", spec := "fnExactWeightsOf", unfollowed := true, recurses := true, apart := false, narrowed := true }
def FnExactWeightsOfUptoSaid : Prop := fnExactWeightsOfUptoRow.holds Try.pinned (OpenSpec.upto fnExactWeightsOfSpec)

/-- 'laws.FnExactBeginsOf', WHERE WHAT IT READS IS OF BULK AT MOST 1048576: true; the input reads as it did. -/
def fnExactBeginsOfUptoRow : OpenClaim := { program := "ytblkddjljncggaa", sum := "47888787163ad31a4e148633b196c9079338cfb6898bb7b6831ad4f36392c39a", func := "loop.example/g03204/laws.FnExactBeginsOf", spec := "fnExactBeginsOf", unfollowed := true, recurses := true, apart := false, narrowed := true }
def FnExactBeginsOfUptoSaid : Prop := fnExactBeginsOfUptoRow.holds Try.pinned (OpenSpec.upto fnExactBeginsOfSpec)

/-- 'laws.FnExactScoreIn', WHERE WHAT IT READS IS OF BULK AT MOST 1048576: true; the input reads as it did. -/
def fnExactScoreInUptoRow : OpenClaim := { program := "ytblkddjljncggaa", sum := "47888787163ad31a4e148633b196c9079338cfb6898bb7b6831ad4f36392c39a", func := "loop.example/g03204/laws.FnExactScoreIn", spec := "fnExactScoreIn", unfollowed := true, recurses := true, apart := false, narrowed := true }
def FnExactScoreInUptoSaid : Prop := fnExactScoreInUptoRow.holds Try.pinned (OpenSpec.upto fnExactScoreInSpec)

/-- 'laws.FnExactSyncopationOf', WHERE WHAT IT READS IS OF BULK AT MOST 1048576: true; the input reads as it did. -/
def fnExactSyncopationOfUptoRow : OpenClaim := { program := "ytblkddjljncggaa", sum := "47888787163ad31a4e148633b196c9079338cfb6898bb7b6831ad4f36392c39a", func := "loop.example/g03204/laws.FnExactSyncopationOf", spec := "fnExactSyncopationOf", unfollowed := true, recurses := true, apart := false, narrowed := true }
def FnExactSyncopationOfUptoSaid : Prop := fnExactSyncopationOfUptoRow.holds Try.pinned (OpenSpec.upto fnExactSyncopationOfSpec)

end Rows
end Go.Proofs.Ytblkddjljncggaa
