/-
  No cell of these rows narrows 'for every input' (looked for: loops, veiled, ifaces, maps, wideKeys, modest, calm, conditions, laid).
  DERIVED. THE GIVEN ROWS OF THIS SEAT. 11 by the template 'for every input the law returns true; each argument reads behind the call as it read before'; 0 by the template 'total and deterministic' (their statements: YtiiikagpfgeabaaTotals.lean).
  GIVEN WITH THE SEED: the statements are not yours to turn. If you find one false, say at which input.
  Laid BY PROGRAM, IN A SANDBOX (cutbox-rows.mjs): the forced cells as the released guide's own fill.sh prints them over the translation 23751f68d9ab0a85… (all of the seat's roots in one cut). By AI agents, Wed Nov 11 2026. No macro, syntax, notation, axiom, sorry.
-/
import Derived.Test.YtiiikagpfgeabaaChecked
import GoSem.Claim
import GoSem.ClaimJoined
import GoSem.ClaimMapViews
import Derived.JoinedTies
import Derived.KernelRfl
namespace Go.Proofs.Ytiiikagpfgeabaa
/- THE CELL 'sum', in the pinned program and in every row, IS THE sha256 OF THE DUMP (.gsa) THAT YtiiikagpfgeabaaProg.lean LOADS. Nothing in Lean hashes anything: it is a label: what it is worth is what the hold of that sum in a sandbox is worth. -/
noncomputable def Try.pinned : Pinned := { name := "ytiiikagpfgeabaa", sum := "23751f68d9ab0a85beaeb594c391d7f3190e7b39a46d0f17949de00e4c6e0f88", checked := Try.checked }
namespace Rows
def none {H : Type} : Left H := { results := [], args := [] }

/-- 'laws.FnExactTimesTwo': WHATEVER THE INPUT: true; the input reads as it did. -/
def fnExactTimesTwoSpec : ChangeSpec := { name := "fnExactTimesTwo", fn := fun _ => fun
  | [d1, d2] => { results := [.lit (.bool true)], args := [d1, d2] }
  | _ => none }
def fnExactTimesTwoRow : OpenClaim := { program := "ytiiikagpfgeabaa", sum := "23751f68d9ab0a85beaeb594c391d7f3190e7b39a46d0f17949de00e4c6e0f88", func := "loop.example/g03204/laws.FnExactTimesTwo", spec := "fnExactTimesTwo", apart := false }
def FnExactTimesTwoSaid : Prop := fnExactTimesTwoRow.holds Try.pinned (OpenSpec.ofChange fnExactTimesTwoSpec)

/-- ITS FALSE NEIGHBOUR: 'it returns false'. Refute it at one input. -/
def fnExactTimesTwoWrong : ChangeSpec := { name := "fnExactTimesTwo", fn := fun _ => fun
  | [d1, d2] => { results := [.lit (.bool false)], args := [d1, d2] }
  | _ => none }
def FnExactTimesTwoWrongFalsely : Prop := fnExactTimesTwoRow.holds Try.pinned (OpenSpec.ofChange fnExactTimesTwoWrong)

/-- 'laws.FnExactCommonPulses': WHATEVER THE INPUT: true; the input reads as it did. -/
def fnExactCommonPulsesSpec : ChangeSpec := { name := "fnExactCommonPulses", fn := fun _ => fun
  | [d1, d2] => { results := [.lit (.bool true)], args := [d1, d2] }
  | _ => none }
def fnExactCommonPulsesRow : OpenClaim := { program := "ytiiikagpfgeabaa", sum := "23751f68d9ab0a85beaeb594c391d7f3190e7b39a46d0f17949de00e4c6e0f88", func := "loop.example/g03204/laws.FnExactCommonPulses", spec := "fnExactCommonPulses", apart := false }
def FnExactCommonPulsesSaid : Prop := fnExactCommonPulsesRow.holds Try.pinned (OpenSpec.ofChange fnExactCommonPulsesSpec)

/-- ITS FALSE NEIGHBOUR: 'it returns false'. Refute it at one input. -/
def fnExactCommonPulsesWrong : ChangeSpec := { name := "fnExactCommonPulses", fn := fun _ => fun
  | [d1, d2] => { results := [.lit (.bool false)], args := [d1, d2] }
  | _ => none }
def FnExactCommonPulsesWrongFalsely : Prop := fnExactCommonPulsesRow.holds Try.pinned (OpenSpec.ofChange fnExactCommonPulsesWrong)

/-- 'laws.FnExactPatternOk': WHATEVER THE INPUT: true; the input reads as it did. -/
def fnExactPatternOkSpec : ChangeSpec := { name := "fnExactPatternOk", fn := fun _ => fun
  | [d] => { results := [.lit (.bool true)], args := [d] }
  | _ => none }
def fnExactPatternOkRow : OpenClaim := { program := "ytiiikagpfgeabaa", sum := "23751f68d9ab0a85beaeb594c391d7f3190e7b39a46d0f17949de00e4c6e0f88", func := "loop.example/g03204/laws.FnExactPatternOk", spec := "fnExactPatternOk", apart := false }
def FnExactPatternOkSaid : Prop := fnExactPatternOkRow.holds Try.pinned (OpenSpec.ofChange fnExactPatternOkSpec)

/-- ITS FALSE NEIGHBOUR: 'it returns false'. Refute it at one input. -/
def fnExactPatternOkWrong : ChangeSpec := { name := "fnExactPatternOk", fn := fun _ => fun
  | [d] => { results := [.lit (.bool false)], args := [d] }
  | _ => none }
def FnExactPatternOkWrongFalsely : Prop := fnExactPatternOkRow.holds Try.pinned (OpenSpec.ofChange fnExactPatternOkWrong)

/-- 'laws.FnExactMaskOf': WHATEVER THE INPUT: true; the input reads as it did. -/
def fnExactMaskOfSpec : ChangeSpec := { name := "fnExactMaskOf", fn := fun _ => fun
  | [d] => { results := [.lit (.bool true)], args := [d] }
  | _ => none }
def fnExactMaskOfRow : OpenClaim := { program := "ytiiikagpfgeabaa", sum := "23751f68d9ab0a85beaeb594c391d7f3190e7b39a46d0f17949de00e4c6e0f88", func := "loop.example/g03204/laws.FnExactMaskOf", spec := "fnExactMaskOf", apart := false }
def FnExactMaskOfSaid : Prop := fnExactMaskOfRow.holds Try.pinned (OpenSpec.ofChange fnExactMaskOfSpec)

/-- ITS FALSE NEIGHBOUR: 'it returns false'. Refute it at one input. -/
def fnExactMaskOfWrong : ChangeSpec := { name := "fnExactMaskOf", fn := fun _ => fun
  | [d] => { results := [.lit (.bool false)], args := [d] }
  | _ => none }
def FnExactMaskOfWrongFalsely : Prop := fnExactMaskOfRow.holds Try.pinned (OpenSpec.ofChange fnExactMaskOfWrong)

/-- 'laws.FnExactListOf': WHATEVER THE INPUT: true; the input reads as it did. -/
def fnExactListOfSpec : ChangeSpec := { name := "fnExactListOf", fn := fun _ => fun
  | [d] => { results := [.lit (.bool true)], args := [d] }
  | _ => none }
def fnExactListOfRow : OpenClaim := { program := "ytiiikagpfgeabaa", sum := "23751f68d9ab0a85beaeb594c391d7f3190e7b39a46d0f17949de00e4c6e0f88", func := "loop.example/g03204/laws.FnExactListOf", spec := "fnExactListOf", apart := false }
def FnExactListOfSaid : Prop := fnExactListOfRow.holds Try.pinned (OpenSpec.ofChange fnExactListOfSpec)

/-- ITS FALSE NEIGHBOUR: 'it returns false'. Refute it at one input. -/
def fnExactListOfWrong : ChangeSpec := { name := "fnExactListOf", fn := fun _ => fun
  | [d] => { results := [.lit (.bool false)], args := [d] }
  | _ => none }
def FnExactListOfWrongFalsely : Prop := fnExactListOfRow.holds Try.pinned (OpenSpec.ofChange fnExactListOfWrong)

/-- 'laws.FnExactMeterOk': WHATEVER THE INPUT: true; the input reads as it did. -/
def fnExactMeterOkSpec : ChangeSpec := { name := "fnExactMeterOk", fn := fun _ => fun
  | [d] => { results := [.lit (.bool true)], args := [d] }
  | _ => none }
def fnExactMeterOkRow : OpenClaim := { program := "ytiiikagpfgeabaa", sum := "23751f68d9ab0a85beaeb594c391d7f3190e7b39a46d0f17949de00e4c6e0f88", func := "loop.example/g03204/laws.FnExactMeterOk", spec := "fnExactMeterOk", unfollowed := true, recurses := true, apart := false }
def FnExactMeterOkSaid : Prop := fnExactMeterOkRow.holds Try.pinned (OpenSpec.ofChange fnExactMeterOkSpec)

/-- ITS FALSE NEIGHBOUR: 'it returns false'. Refute it at one input. -/
def fnExactMeterOkWrong : ChangeSpec := { name := "fnExactMeterOk", fn := fun _ => fun
  | [d] => { results := [.lit (.bool false)], args := [d] }
  | _ => none }
def FnExactMeterOkWrongFalsely : Prop := fnExactMeterOkRow.holds Try.pinned (OpenSpec.ofChange fnExactMeterOkWrong)

/-- 'laws.FnExactRestTwo': WHATEVER THE INPUT: true; the input reads as it did. -/
def fnExactRestTwoSpec : ChangeSpec := { name := "fnExactRestTwo", fn := fun _ => fun
  | [d1, d2] => { results := [.lit (.bool true)], args := [d1, d2] }
  | _ => none }
def fnExactRestTwoRow : OpenClaim := { program := "ytiiikagpfgeabaa", sum := "23751f68d9ab0a85beaeb594c391d7f3190e7b39a46d0f17949de00e4c6e0f88", func := "loop.example/g03204/laws.FnExactRestTwo", spec := "fnExactRestTwo", apart := false }
def FnExactRestTwoSaid : Prop := fnExactRestTwoRow.holds Try.pinned (OpenSpec.ofChange fnExactRestTwoSpec)

/-- ITS FALSE NEIGHBOUR: 'it returns false'. Refute it at one input. -/
def fnExactRestTwoWrong : ChangeSpec := { name := "fnExactRestTwo", fn := fun _ => fun
  | [d1, d2] => { results := [.lit (.bool false)], args := [d1, d2] }
  | _ => none }
def FnExactRestTwoWrongFalsely : Prop := fnExactRestTwoRow.holds Try.pinned (OpenSpec.ofChange fnExactRestTwoWrong)

/-- 'laws.FnExactMeterSize': WHATEVER THE INPUT: true; the input reads as it did. -/
def fnExactMeterSizeSpec : ChangeSpec := { name := "fnExactMeterSize", fn := fun _ => fun
  | [d] => { results := [.lit (.bool true)], args := [d] }
  | _ => none }
def fnExactMeterSizeRow : OpenClaim := { program := "ytiiikagpfgeabaa", sum := "23751f68d9ab0a85beaeb594c391d7f3190e7b39a46d0f17949de00e4c6e0f88", func := "loop.example/g03204/laws.FnExactMeterSize", spec := "fnExactMeterSize", unfollowed := true, recurses := true, apart := false }
def FnExactMeterSizeSaid : Prop := fnExactMeterSizeRow.holds Try.pinned (OpenSpec.ofChange fnExactMeterSizeSpec)

/-- ITS FALSE NEIGHBOUR: 'it returns false'. Refute it at one input. -/
def fnExactMeterSizeWrong : ChangeSpec := { name := "fnExactMeterSize", fn := fun _ => fun
  | [d] => { results := [.lit (.bool false)], args := [d] }
  | _ => none }
def FnExactMeterSizeWrongFalsely : Prop := fnExactMeterSizeRow.holds Try.pinned (OpenSpec.ofChange fnExactMeterSizeWrong)

/-- 'laws.FnExactMirrorPattern': WHATEVER THE INPUT: true; the input reads as it did. -/
def fnExactMirrorPatternSpec : ChangeSpec := { name := "fnExactMirrorPattern", fn := fun _ => fun
  | [d] => { results := [.lit (.bool true)], args := [d] }
  | _ => none }
def fnExactMirrorPatternRow : OpenClaim := { program := "ytiiikagpfgeabaa", sum := "23751f68d9ab0a85beaeb594c391d7f3190e7b39a46d0f17949de00e4c6e0f88", func := "loop.example/g03204/laws.FnExactMirrorPattern", spec := "fnExactMirrorPattern", apart := false }
def FnExactMirrorPatternSaid : Prop := fnExactMirrorPatternRow.holds Try.pinned (OpenSpec.ofChange fnExactMirrorPatternSpec)

/-- ITS FALSE NEIGHBOUR: 'it returns false'. Refute it at one input. -/
def fnExactMirrorPatternWrong : ChangeSpec := { name := "fnExactMirrorPattern", fn := fun _ => fun
  | [d] => { results := [.lit (.bool false)], args := [d] }
  | _ => none }
def FnExactMirrorPatternWrongFalsely : Prop := fnExactMirrorPatternRow.holds Try.pinned (OpenSpec.ofChange fnExactMirrorPatternWrong)

/-- 'laws.FnExactHitsOf': WHATEVER THE INPUT: true; the input reads as it did. -/
def fnExactHitsOfSpec : ChangeSpec := { name := "fnExactHitsOf", fn := fun _ => fun
  | [d1, d2] => { results := [.lit (.bool true)], args := [d1, d2] }
  | _ => none }
def fnExactHitsOfRow : OpenClaim := { program := "ytiiikagpfgeabaa", sum := "23751f68d9ab0a85beaeb594c391d7f3190e7b39a46d0f17949de00e4c6e0f88", func := "loop.example/g03204/laws.FnExactHitsOf", spec := "fnExactHitsOf", apart := false }
def FnExactHitsOfSaid : Prop := fnExactHitsOfRow.holds Try.pinned (OpenSpec.ofChange fnExactHitsOfSpec)

/-- ITS FALSE NEIGHBOUR: 'it returns false'. Refute it at one input. -/
def fnExactHitsOfWrong : ChangeSpec := { name := "fnExactHitsOf", fn := fun _ => fun
  | [d1, d2] => { results := [.lit (.bool false)], args := [d1, d2] }
  | _ => none }
def FnExactHitsOfWrongFalsely : Prop := fnExactHitsOfRow.holds Try.pinned (OpenSpec.ofChange fnExactHitsOfWrong)

/-- 'laws.FnExactIsMirrorPattern': WHATEVER THE INPUT: true; the input reads as it did. -/
def fnExactIsMirrorPatternSpec : ChangeSpec := { name := "fnExactIsMirrorPattern", fn := fun _ => fun
  | [d] => { results := [.lit (.bool true)], args := [d] }
  | _ => none }
def fnExactIsMirrorPatternRow : OpenClaim := { program := "ytiiikagpfgeabaa", sum := "23751f68d9ab0a85beaeb594c391d7f3190e7b39a46d0f17949de00e4c6e0f88", func := "loop.example/g03204/laws.FnExactIsMirrorPattern", spec := "fnExactIsMirrorPattern", apart := false }
def FnExactIsMirrorPatternSaid : Prop := fnExactIsMirrorPatternRow.holds Try.pinned (OpenSpec.ofChange fnExactIsMirrorPatternSpec)

/-- ITS FALSE NEIGHBOUR: 'it returns false'. Refute it at one input. -/
def fnExactIsMirrorPatternWrong : ChangeSpec := { name := "fnExactIsMirrorPattern", fn := fun _ => fun
  | [d] => { results := [.lit (.bool false)], args := [d] }
  | _ => none }
def FnExactIsMirrorPatternWrongFalsely : Prop := fnExactIsMirrorPatternRow.holds Try.pinned (OpenSpec.ofChange fnExactIsMirrorPatternWrong)

/- THE SECOND FORM. 'bulk': how many values and letters a reading holds, each counted each time it is reached (what is shared counts as often as it is met; a slice's spare places count too). A statement '..UptoSaid' is the law's where the arguments, and the package variables that the reading takes, are together of bulk at most 1048576: NARROWER than '..Said'. Prove '..Said' where nothing that the law and all that it calls make is longer than what came in: it says more and counts as full. Else prove '..UptoSaid'. A law counts once. -/
mutual
def uptoBulk {H : Type} : DataW H → Nat
  | .lit (.string bytes) => bytes.length + 1
  | .lit _ => 1
  | .nil => 1
  | .ptr d => uptoBulk d + 1
  | .slice elems spare => uptoBulkAll elems + uptoBulkAll spare + 1
  | .agg parts => uptoBulkAll parts + 1
  | .iface _ d => uptoBulk d + 1
  | .map entries => uptoBulkEntries entries + 1
  | .held _ => 1
def uptoBulkAll {H : Type} : List (DataW H) → Nat
  | [] => 0
  | d :: r => uptoBulk d + uptoBulkAll r
def uptoBulkEntries {H : Type} : List (Lit × DataW H) → Nat
  | [] => 0
  | x :: r => uptoBulkEntry x + uptoBulkEntries r
def uptoBulkEntry {H : Type} : Lit × DataW H → Nat
  | (.string bytes, d) => bytes.length + uptoBulk d + 1
  | (_, d) => uptoBulk d + 1
 end
def uptoSmall : (H : Type) → List (DataW H) → Bool := fun _ ds => decide (uptoBulkAll ds ≤ 1048576)
def OpenSpec.upto (s : _root_.Go.ChangeSpec) : _root_.Go.OpenSpec := { _root_.Go.OpenSpec.ofChange s with cond := some uptoSmall }

/-- 'laws.FnExactTimesTwo', WHERE WHAT IT READS IS OF BULK AT MOST 1048576: true; the input reads as it did. -/
def fnExactTimesTwoUptoRow : OpenClaim := { program := "ytiiikagpfgeabaa", sum := "23751f68d9ab0a85beaeb594c391d7f3190e7b39a46d0f17949de00e4c6e0f88", func := "loop.example/g03204/laws.FnExactTimesTwo", spec := "fnExactTimesTwo", apart := false, narrowed := true }
def FnExactTimesTwoUptoSaid : Prop := fnExactTimesTwoUptoRow.holds Try.pinned (OpenSpec.upto fnExactTimesTwoSpec)

/-- 'laws.FnExactCommonPulses', WHERE WHAT IT READS IS OF BULK AT MOST 1048576: true; the input reads as it did. -/
def fnExactCommonPulsesUptoRow : OpenClaim := { program := "ytiiikagpfgeabaa", sum := "23751f68d9ab0a85beaeb594c391d7f3190e7b39a46d0f17949de00e4c6e0f88", func := "loop.example/g03204/laws.FnExactCommonPulses", spec := "fnExactCommonPulses", apart := false, narrowed := true }
def FnExactCommonPulsesUptoSaid : Prop := fnExactCommonPulsesUptoRow.holds Try.pinned (OpenSpec.upto fnExactCommonPulsesSpec)

/-- 'laws.FnExactPatternOk', WHERE WHAT IT READS IS OF BULK AT MOST 1048576: true; the input reads as it did. -/
def fnExactPatternOkUptoRow : OpenClaim := { program := "ytiiikagpfgeabaa", sum := "23751f68d9ab0a85beaeb594c391d7f3190e7b39a46d0f17949de00e4c6e0f88", func := "loop.example/g03204/laws.FnExactPatternOk", spec := "fnExactPatternOk", apart := false, narrowed := true }
def FnExactPatternOkUptoSaid : Prop := fnExactPatternOkUptoRow.holds Try.pinned (OpenSpec.upto fnExactPatternOkSpec)

/-- 'laws.FnExactMaskOf', WHERE WHAT IT READS IS OF BULK AT MOST 1048576: true; the input reads as it did. -/
def fnExactMaskOfUptoRow : OpenClaim := { program := "ytiiikagpfgeabaa", sum := "23751f68d9ab0a85beaeb594c391d7f3190e7b39a46d0f17949de00e4c6e0f88", func := "loop.example/g03204/laws.FnExactMaskOf", spec := "fnExactMaskOf", apart := false, narrowed := true }
def FnExactMaskOfUptoSaid : Prop := fnExactMaskOfUptoRow.holds Try.pinned (OpenSpec.upto fnExactMaskOfSpec)

/-- 'laws.FnExactListOf', WHERE WHAT IT READS IS OF BULK AT MOST 1048576: true; the input reads as it did. -/
def fnExactListOfUptoRow : OpenClaim := { program := "ytiiikagpfgeabaa", sum := "23751f68d9ab0a85beaeb594c391d7f3190e7b39a46d0f17949de00e4c6e0f88", func := "loop.example/g03204/laws.FnExactListOf", spec := "fnExactListOf", apart := false, narrowed := true }
def FnExactListOfUptoSaid : Prop := fnExactListOfUptoRow.holds Try.pinned (OpenSpec.upto fnExactListOfSpec)

/-- 'laws.FnExactMeterOk', WHERE WHAT IT READS IS OF BULK AT MOST 1048576: true; the input reads as it did. -/
def fnExactMeterOkUptoRow : OpenClaim := { program := "ytiiikagpfgeabaa", sum := "23751f68d9ab0a85beaeb594c391d7f3190e7b39a46d0f17949de00e4c6e0f88", func := "loop.example/g03204/laws.FnExactMeterOk", spec := "fnExactMeterOk", unfollowed := true, recurses := true, apart := false, narrowed := true }
def FnExactMeterOkUptoSaid : Prop := fnExactMeterOkUptoRow.holds Try.pinned (OpenSpec.upto fnExactMeterOkSpec)

/-- 'laws.FnExactRestTwo', WHERE WHAT IT READS IS OF BULK AT MOST 1048576: true; the input reads as it did. -/
def fnExactRestTwoUptoRow : OpenClaim := { program := "ytiiikagpfgeabaa", sum := "23751f68d9ab0a85beaeb594c391d7f3190e7b39a46d0f17949de00e4c6e0f88", func := "loop.example/g03204/laws.FnExactRestTwo", spec := "fnExactRestTwo", apart := false, narrowed := true }
def FnExactRestTwoUptoSaid : Prop := fnExactRestTwoUptoRow.holds Try.pinned (OpenSpec.upto fnExactRestTwoSpec)

/-- 'laws.FnExactMeterSize', WHERE WHAT IT READS IS OF BULK AT MOST 1048576: true; the input reads as it did. -/
def fnExactMeterSizeUptoRow : OpenClaim := { program := "ytiiikagpfgeabaa", sum := "23751f68d9ab0a85beaeb594c391d7f3190e7b39a46d0f17949de00e4c6e0f88", func := "loop.example/g03204/laws.FnExactMeterSize", spec := "fnExactMeterSize", unfollowed := true, recurses := true, apart := false, narrowed := true }
def FnExactMeterSizeUptoSaid : Prop := fnExactMeterSizeUptoRow.holds Try.pinned (OpenSpec.upto fnExactMeterSizeSpec)

/-- 'laws.FnExactMirrorPattern', WHERE WHAT IT READS IS OF BULK AT MOST 1048576: true; the input reads as it did. -/
def fnExactMirrorPatternUptoRow : OpenClaim := { program := "ytiiikagpfgeabaa", sum := "23751f68d9ab0a85beaeb594c391d7f3190e7b39a46d0f17949de00e4c6e0f88", func := "loop.example/g03204/laws.FnExactMirrorPattern", spec := "fnExactMirrorPattern", apart := false, narrowed := true }
def FnExactMirrorPatternUptoSaid : Prop := fnExactMirrorPatternUptoRow.holds Try.pinned (OpenSpec.upto fnExactMirrorPatternSpec)

/-- 'laws.FnExactHitsOf', WHERE WHAT IT READS IS OF BULK AT MOST 1048576: true; the input reads as it did. -/
def fnExactHitsOfUptoRow : OpenClaim := { program := "ytiiikagpfgeabaa", sum := "23751f68d9ab0a85beaeb594c391d7f3190e7b39a46d0f17949de00e4c6e0f88", func := "loop.example/g03204/laws.FnExactHitsOf", spec := "fnExactHitsOf", apart := false, narrowed := true }
def FnExactHitsOfUptoSaid : Prop := fnExactHitsOfUptoRow.holds Try.pinned (OpenSpec.upto fnExactHitsOfSpec)

/-- 'laws.FnExactIsMirrorPattern', WHERE WHAT IT READS IS OF BULK AT MOST 1048576: true; the input reads as it did. -/
def fnExactIsMirrorPatternUptoRow : OpenClaim := { program := "ytiiikagpfgeabaa", sum := "23751f68d9ab0a85beaeb594c391d7f3190e7b39a46d0f17949de00e4c6e0f88", func := "loop.example/g03204/laws.FnExactIsMirrorPattern", spec := "fnExactIsMirrorPattern", apart := false, narrowed := true }
def FnExactIsMirrorPatternUptoSaid : Prop := fnExactIsMirrorPatternUptoRow.holds Try.pinned (OpenSpec.upto fnExactIsMirrorPatternSpec)

end Rows
end Go.Proofs.Ytiiikagpfgeabaa
