/-
  No cell of these rows narrows 'for every input' (looked for: loops, veiled, ifaces, maps, wideKeys, modest, calm, conditions, laid).
  DERIVED. THE GIVEN ROWS OF THIS SEAT. 11 by the template 'for every input the law returns true; each argument reads behind the call as it read before'; 0 by the template 'total and deterministic' (their statements: YtoacpenbgkddkaaTotals.lean).
  GIVEN WITH THE SEED: the statements are not yours to turn. If you find one false, say at which input.
  Laid BY PROGRAM, IN A SANDBOX (cutbox-rows.mjs): the forced cells as the released guide's own fill.sh prints them over the translation e0ed7545a5de13b2… (all of the seat's roots in one cut). By AI agents, Wed Nov 11 2026. No macro, syntax, notation, axiom, sorry.
-/
import Derived.Test.YtoacpenbgkddkaaChecked
import GoSem.Claim
import GoSem.ClaimJoined
import GoSem.ClaimMapViews
import Derived.JoinedTies
import Derived.KernelRfl
namespace Go.Proofs.Ytoacpenbgkddkaa
/- THE CELL 'sum', in the pinned program and in every row, IS THE sha256 OF THE DUMP (.gsa) THAT YtoacpenbgkddkaaProg.lean LOADS. Nothing in Lean hashes anything: it is a label: what it is worth is what the hold of that sum in a sandbox is worth. -/
noncomputable def Try.pinned : Pinned := { name := "ytoacpenbgkddkaa", sum := "e0ed7545a5de13b2f5e63dbfedec08bc135f01539e874eccd89aab6c79f450c3", checked := Try.checked }
namespace Rows
def none {H : Type} : Left H := { results := [], args := [] }

/-- 'laws.FnExactSeriesTwo': WHATEVER THE INPUT: true; the input reads as it did. -/
def fnExactSeriesTwoSpec : ChangeSpec := { name := "fnExactSeriesTwo", fn := fun _ => fun
  | [d1, d2] => { results := [.lit (.bool true)], args := [d1, d2] }
  | _ => none }
def fnExactSeriesTwoRow : OpenClaim := { program := "ytoacpenbgkddkaa", sum := "e0ed7545a5de13b2f5e63dbfedec08bc135f01539e874eccd89aab6c79f450c3", func := "loop.example/g03204/laws.FnExactSeriesTwo", spec := "fnExactSeriesTwo", apart := false }
def FnExactSeriesTwoSaid : Prop := fnExactSeriesTwoRow.holds Try.pinned (OpenSpec.ofChange fnExactSeriesTwoSpec)

/-- ITS FALSE NEIGHBOUR: 'it returns false'. Refute it at one input. -/
def fnExactSeriesTwoWrong : ChangeSpec := { name := "fnExactSeriesTwo", fn := fun _ => fun
  | [d1, d2] => { results := [.lit (.bool false)], args := [d1, d2] }
  | _ => none }
def FnExactSeriesTwoWrongFalsely : Prop := fnExactSeriesTwoRow.holds Try.pinned (OpenSpec.ofChange fnExactSeriesTwoWrong)

/-- 'laws.FnExactCanGoOn': WHATEVER THE INPUT: true; the input reads as it did. -/
def fnExactCanGoOnSpec : ChangeSpec := { name := "fnExactCanGoOn", fn := fun _ => fun
  | [d] => { results := [.lit (.bool true)], args := [d] }
  | _ => none }
def fnExactCanGoOnRow : OpenClaim := { program := "ytoacpenbgkddkaa", sum := "e0ed7545a5de13b2f5e63dbfedec08bc135f01539e874eccd89aab6c79f450c3", func := "loop.example/g03204/laws.FnExactCanGoOn", spec := "fnExactCanGoOn", apart := false }
def FnExactCanGoOnSaid : Prop := fnExactCanGoOnRow.holds Try.pinned (OpenSpec.ofChange fnExactCanGoOnSpec)

/-- ITS FALSE NEIGHBOUR: 'it returns false'. Refute it at one input. -/
def fnExactCanGoOnWrong : ChangeSpec := { name := "fnExactCanGoOn", fn := fun _ => fun
  | [d] => { results := [.lit (.bool false)], args := [d] }
  | _ => none }
def FnExactCanGoOnWrongFalsely : Prop := fnExactCanGoOnRow.holds Try.pinned (OpenSpec.ofChange fnExactCanGoOnWrong)

/-- 'laws.FnExactEntriesOf': WHATEVER THE INPUT: true; the input reads as it did. -/
def fnExactEntriesOfSpec : ChangeSpec := { name := "fnExactEntriesOf", fn := fun _ => fun
  | [d1, d2] => { results := [.lit (.bool true)], args := [d1, d2] }
  | _ => none }
def fnExactEntriesOfRow : OpenClaim := { program := "ytoacpenbgkddkaa", sum := "e0ed7545a5de13b2f5e63dbfedec08bc135f01539e874eccd89aab6c79f450c3", func := "loop.example/g03204/laws.FnExactEntriesOf", spec := "fnExactEntriesOf", apart := false }
def FnExactEntriesOfSaid : Prop := fnExactEntriesOfRow.holds Try.pinned (OpenSpec.ofChange fnExactEntriesOfSpec)

/-- ITS FALSE NEIGHBOUR: 'it returns false'. Refute it at one input. -/
def fnExactEntriesOfWrong : ChangeSpec := { name := "fnExactEntriesOf", fn := fun _ => fun
  | [d1, d2] => { results := [.lit (.bool false)], args := [d1, d2] }
  | _ => none }
def FnExactEntriesOfWrongFalsely : Prop := fnExactEntriesOfRow.holds Try.pinned (OpenSpec.ofChange fnExactEntriesOfWrong)

/-- 'laws.FnExactBlockLength': WHATEVER THE INPUT: true; the input reads as it did. -/
def fnExactBlockLengthSpec : ChangeSpec := { name := "fnExactBlockLength", fn := fun _ => fun
  | [d] => { results := [.lit (.bool true)], args := [d] }
  | _ => none }
def fnExactBlockLengthRow : OpenClaim := { program := "ytoacpenbgkddkaa", sum := "e0ed7545a5de13b2f5e63dbfedec08bc135f01539e874eccd89aab6c79f450c3", func := "loop.example/g03204/laws.FnExactBlockLength", spec := "fnExactBlockLength", apart := false }
def FnExactBlockLengthSaid : Prop := fnExactBlockLengthRow.holds Try.pinned (OpenSpec.ofChange fnExactBlockLengthSpec)

/-- ITS FALSE NEIGHBOUR: 'it returns false'. Refute it at one input. -/
def fnExactBlockLengthWrong : ChangeSpec := { name := "fnExactBlockLength", fn := fun _ => fun
  | [d] => { results := [.lit (.bool false)], args := [d] }
  | _ => none }
def FnExactBlockLengthWrongFalsely : Prop := fnExactBlockLengthRow.holds Try.pinned (OpenSpec.ofChange fnExactBlockLengthWrong)

/-- 'laws.FnExactFailTime': WHATEVER THE INPUT: true; the input reads as it did. -/
def fnExactFailTimeSpec : ChangeSpec := { name := "fnExactFailTime", fn := fun _ => fun
  | [d] => { results := [.lit (.bool true)], args := [d] }
  | _ => none }
def fnExactFailTimeRow : OpenClaim := { program := "ytoacpenbgkddkaa", sum := "e0ed7545a5de13b2f5e63dbfedec08bc135f01539e874eccd89aab6c79f450c3", func := "loop.example/g03204/laws.FnExactFailTime", spec := "fnExactFailTime", apart := false }
def FnExactFailTimeSaid : Prop := fnExactFailTimeRow.holds Try.pinned (OpenSpec.ofChange fnExactFailTimeSpec)

/-- ITS FALSE NEIGHBOUR: 'it returns false'. Refute it at one input. -/
def fnExactFailTimeWrong : ChangeSpec := { name := "fnExactFailTime", fn := fun _ => fun
  | [d] => { results := [.lit (.bool false)], args := [d] }
  | _ => none }
def FnExactFailTimeWrongFalsely : Prop := fnExactFailTimeRow.holds Try.pinned (OpenSpec.ofChange fnExactFailTimeWrong)

/-- 'laws.FnExactLinePeriod': WHATEVER THE INPUT: true; the input reads as it did. -/
def fnExactLinePeriodSpec : ChangeSpec := { name := "fnExactLinePeriod", fn := fun _ => fun
  | [d] => { results := [.lit (.bool true)], args := [d] }
  | _ => none }
def fnExactLinePeriodRow : OpenClaim := { program := "ytoacpenbgkddkaa", sum := "e0ed7545a5de13b2f5e63dbfedec08bc135f01539e874eccd89aab6c79f450c3", func := "loop.example/g03204/laws.FnExactLinePeriod", spec := "fnExactLinePeriod", apart := false }
def FnExactLinePeriodSaid : Prop := fnExactLinePeriodRow.holds Try.pinned (OpenSpec.ofChange fnExactLinePeriodSpec)

/-- ITS FALSE NEIGHBOUR: 'it returns false'. Refute it at one input. -/
def fnExactLinePeriodWrong : ChangeSpec := { name := "fnExactLinePeriod", fn := fun _ => fun
  | [d] => { results := [.lit (.bool false)], args := [d] }
  | _ => none }
def FnExactLinePeriodWrongFalsely : Prop := fnExactLinePeriodRow.holds Try.pinned (OpenSpec.ofChange fnExactLinePeriodWrong)

/-- 'laws.FnExactPeriodEntries': WHATEVER THE INPUT: true; the input reads as it did. -/
def fnExactPeriodEntriesSpec : ChangeSpec := { name := "fnExactPeriodEntries", fn := fun _ => fun
  | [d] => { results := [.lit (.bool true)], args := [d] }
  | _ => none }
def fnExactPeriodEntriesRow : OpenClaim := { program := "ytoacpenbgkddkaa", sum := "e0ed7545a5de13b2f5e63dbfedec08bc135f01539e874eccd89aab6c79f450c3", func := "loop.example/g03204/laws.FnExactPeriodEntries", spec := "fnExactPeriodEntries", apart := false }
def FnExactPeriodEntriesSaid : Prop := fnExactPeriodEntriesRow.holds Try.pinned (OpenSpec.ofChange fnExactPeriodEntriesSpec)

/-- ITS FALSE NEIGHBOUR: 'it returns false'. Refute it at one input. -/
def fnExactPeriodEntriesWrong : ChangeSpec := { name := "fnExactPeriodEntries", fn := fun _ => fun
  | [d] => { results := [.lit (.bool false)], args := [d] }
  | _ => none }
def FnExactPeriodEntriesWrongFalsely : Prop := fnExactPeriodEntriesRow.holds Try.pinned (OpenSpec.ofChange fnExactPeriodEntriesWrong)

/-- 'laws.FnExactOrderTwo': WHATEVER THE INPUT: true; the input reads as it did. -/
def fnExactOrderTwoSpec : ChangeSpec := { name := "fnExactOrderTwo", fn := fun _ => fun
  | [d] => { results := [.lit (.bool true)], args := [d] }
  | _ => none }
def fnExactOrderTwoRow : OpenClaim := { program := "ytoacpenbgkddkaa", sum := "e0ed7545a5de13b2f5e63dbfedec08bc135f01539e874eccd89aab6c79f450c3", func := "loop.example/g03204/laws.FnExactOrderTwo", spec := "fnExactOrderTwo", apart := false }
def FnExactOrderTwoSaid : Prop := fnExactOrderTwoRow.holds Try.pinned (OpenSpec.ofChange fnExactOrderTwoSpec)

/-- ITS FALSE NEIGHBOUR: 'it returns false'. Refute it at one input. -/
def fnExactOrderTwoWrong : ChangeSpec := { name := "fnExactOrderTwo", fn := fun _ => fun
  | [d] => { results := [.lit (.bool false)], args := [d] }
  | _ => none }
def FnExactOrderTwoWrongFalsely : Prop := fnExactOrderTwoRow.holds Try.pinned (OpenSpec.ofChange fnExactOrderTwoWrong)

/-- 'laws.FnExactEntriesTwo': WHATEVER THE INPUT: true; the input reads as it did. -/
def fnExactEntriesTwoSpec : ChangeSpec := { name := "fnExactEntriesTwo", fn := fun _ => fun
  | [d1, d2] => { results := [.lit (.bool true)], args := [d1, d2] }
  | _ => none }
def fnExactEntriesTwoRow : OpenClaim := { program := "ytoacpenbgkddkaa", sum := "e0ed7545a5de13b2f5e63dbfedec08bc135f01539e874eccd89aab6c79f450c3", func := "loop.example/g03204/laws.FnExactEntriesTwo", spec := "fnExactEntriesTwo", apart := false }
def FnExactEntriesTwoSaid : Prop := fnExactEntriesTwoRow.holds Try.pinned (OpenSpec.ofChange fnExactEntriesTwoSpec)

/-- ITS FALSE NEIGHBOUR: 'it returns false'. Refute it at one input. -/
def fnExactEntriesTwoWrong : ChangeSpec := { name := "fnExactEntriesTwo", fn := fun _ => fun
  | [d1, d2] => { results := [.lit (.bool false)], args := [d1, d2] }
  | _ => none }
def FnExactEntriesTwoWrongFalsely : Prop := fnExactEntriesTwoRow.holds Try.pinned (OpenSpec.ofChange fnExactEntriesTwoWrong)

/-- 'laws.FnExactLeastTwo': WHATEVER THE INPUT: true; the input reads as it did. -/
def fnExactLeastTwoSpec : ChangeSpec := { name := "fnExactLeastTwo", fn := fun _ => fun
  | [d] => { results := [.lit (.bool true)], args := [d] }
  | _ => none }
def fnExactLeastTwoRow : OpenClaim := { program := "ytoacpenbgkddkaa", sum := "e0ed7545a5de13b2f5e63dbfedec08bc135f01539e874eccd89aab6c79f450c3", func := "loop.example/g03204/laws.FnExactLeastTwo", spec := "fnExactLeastTwo", apart := false }
def FnExactLeastTwoSaid : Prop := fnExactLeastTwoRow.holds Try.pinned (OpenSpec.ofChange fnExactLeastTwoSpec)

/-- ITS FALSE NEIGHBOUR: 'it returns false'. Refute it at one input. -/
def fnExactLeastTwoWrong : ChangeSpec := { name := "fnExactLeastTwo", fn := fun _ => fun
  | [d] => { results := [.lit (.bool false)], args := [d] }
  | _ => none }
def FnExactLeastTwoWrongFalsely : Prop := fnExactLeastTwoRow.holds Try.pinned (OpenSpec.ofChange fnExactLeastTwoWrong)

/-- 'laws.FnModulo': WHATEVER THE INPUT: true; the input reads as it did. -/
def fnModuloSpec : ChangeSpec := { name := "fnModulo", fn := fun _ => fun
  | [d] => { results := [.lit (.bool true)], args := [d] }
  | _ => none }
def fnModuloRow : OpenClaim := { program := "ytoacpenbgkddkaa", sum := "e0ed7545a5de13b2f5e63dbfedec08bc135f01539e874eccd89aab6c79f450c3", func := "loop.example/g03204/laws.FnModulo", spec := "fnModulo", apart := false }
def FnModuloSaid : Prop := fnModuloRow.holds Try.pinned (OpenSpec.ofChange fnModuloSpec)

/-- ITS FALSE NEIGHBOUR: 'it returns false'. Refute it at one input. -/
def fnModuloWrong : ChangeSpec := { name := "fnModulo", fn := fun _ => fun
  | [d] => { results := [.lit (.bool false)], args := [d] }
  | _ => none }
def FnModuloWrongFalsely : Prop := fnModuloRow.holds Try.pinned (OpenSpec.ofChange fnModuloWrong)

/- THE SECOND FORM. 'bulk': how many values and letters a reading holds, each counted each time it is reached (what is shared counts as often as it is met; a slice's spare places count too). A statement '..UptoSaid' is the law's where the arguments, and the package variables that the reading takes, are together of bulk at most 1048576: NARROWER than '..Said'. Prove '..Said' where nothing that the law and all that it calls make is longer than what came in: it says more and counts as full. Else prove '..UptoSaid'. A law counts once. -/
mutual
def uptoBulk {H : Type} : DataW H → Nat
  | .lit (.string bytes) => bytes.length + 1
  | .lit _ => 1
  | .nil => 1
  | .ptr d => uptoBulk d + 1
  | .slice elems spare => uptoBulkAll elems + uptoBulkAll spare + 1
  | .agg parts => uptoBulkAll parts + 1
  | .iface _ d => uptoBulk d + 1
  | .map entries => uptoBulkEntries entries + 1
  | .held _ => 1
def uptoBulkAll {H : Type} : List (DataW H) → Nat
  | [] => 0
  | d :: r => uptoBulk d + uptoBulkAll r
def uptoBulkEntries {H : Type} : List (Lit × DataW H) → Nat
  | [] => 0
  | x :: r => uptoBulkEntry x + uptoBulkEntries r
def uptoBulkEntry {H : Type} : Lit × DataW H → Nat
  | (.string bytes, d) => bytes.length + uptoBulk d + 1
  | (_, d) => uptoBulk d + 1
 end
def uptoSmall : (H : Type) → List (DataW H) → Bool := fun _ ds => decide (uptoBulkAll ds ≤ 1048576)
def OpenSpec.upto (s : _root_.Go.ChangeSpec) : _root_.Go.OpenSpec := { _root_.Go.OpenSpec.ofChange s with cond := some uptoSmall }

/-- 'laws.FnExactSeriesTwo', WHERE WHAT IT READS IS OF BULK AT MOST 1048576: true; the input reads as it did. -/
def fnExactSeriesTwoUptoRow : OpenClaim := { program := "ytoacpenbgkddkaa", sum := "e0ed7545a5de13b2f5e63dbfedec08bc135f01539e874eccd89aab6c79f450c3", func := "loop.example/g03204/laws.FnExactSeriesTwo", spec := "fnExactSeriesTwo", apart := false, narrowed := true }
def FnExactSeriesTwoUptoSaid : Prop := fnExactSeriesTwoUptoRow.holds Try.pinned (OpenSpec.upto fnExactSeriesTwoSpec)

/-- 'laws.FnExactCanGoOn', WHERE WHAT IT READS IS OF BULK AT MOST 1048576: true; the input reads as it did. -/
def fnExactCanGoOnUptoRow : OpenClaim := { program := "ytoacpenbgkddkaa", sum := "e0ed7545a5de13b2f5e63dbfedec08bc135f01539e874eccd89aab6c79f450c3", func := "loop.example/g03204/laws.FnExactCanGoOn", spec := "fnExactCanGoOn", apart := false, narrowed := true }
def FnExactCanGoOnUptoSaid : Prop := fnExactCanGoOnUptoRow.holds Try.pinned (OpenSpec.upto fnExactCanGoOnSpec)

/-- 'laws.FnExactEntriesOf', WHERE WHAT IT READS IS OF BULK AT MOST 1048576: true; the input reads as it did. -/
def fnExactEntriesOfUptoRow : OpenClaim := { program := "ytoacpenbgkddkaa", sum := "e0ed7545a5de13b2f5e63dbfedec08bc135f01539e874eccd89aab6c79f450c3", func := "loop.example/g03204/laws.FnExactEntriesOf", spec := "fnExactEntriesOf", apart := false, narrowed := true }
def FnExactEntriesOfUptoSaid : Prop := fnExactEntriesOfUptoRow.holds Try.pinned (OpenSpec.upto fnExactEntriesOfSpec)

/-- 'laws.FnExactBlockLength', WHERE WHAT IT READS IS OF BULK AT MOST 1048576: true; the input reads as it did. -/
def fnExactBlockLengthUptoRow : OpenClaim := { program := "ytoacpenbgkddkaa", sum := "e0ed7545a5de13b2f5e63dbfedec08bc135f01539e874eccd89aab6c79f450c3", func := "loop.example/g03204/laws.FnExactBlockLength", spec := "fnExactBlockLength", apart := false, narrowed := true }
def FnExactBlockLengthUptoSaid : Prop := fnExactBlockLengthUptoRow.holds Try.pinned (OpenSpec.upto fnExactBlockLengthSpec)

/-- 'laws.FnExactFailTime', WHERE WHAT IT READS IS OF BULK AT MOST 1048576: true; the input reads as it did. -/
def fnExactFailTimeUptoRow : OpenClaim := { program := "ytoacpenbgkddkaa", sum := "e0ed7545a5de13b2f5e63dbfedec08bc135f01539e874eccd89aab6c79f450c3", func := "loop.example/g03204/laws.FnExactFailTime", spec := "fnExactFailTime", apart := false, narrowed := true }
def FnExactFailTimeUptoSaid : Prop := fnExactFailTimeUptoRow.holds Try.pinned (OpenSpec.upto fnExactFailTimeSpec)

/-- 'laws.FnExactLinePeriod', WHERE WHAT IT READS IS OF BULK AT MOST 1048576: true; the input reads as it did. -/
def fnExactLinePeriodUptoRow : OpenClaim := { program := "ytoacpenbgkddkaa", sum := "e0ed7545a5de13b2f5e63dbfedec08bc135f01539e874eccd89aab6c79f450c3", func := "loop.example/g03204/laws.FnExactLinePeriod", spec := "fnExactLinePeriod", apart := false, narrowed := true }
def FnExactLinePeriodUptoSaid : Prop := fnExactLinePeriodUptoRow.holds Try.pinned (OpenSpec.upto fnExactLinePeriodSpec)

/-- 'laws.FnExactPeriodEntries', WHERE WHAT IT READS IS OF BULK AT MOST 1048576: true; the input reads as it did. -/
def fnExactPeriodEntriesUptoRow : OpenClaim := { program := "ytoacpenbgkddkaa", sum := "e0ed7545a5de13b2f5e63dbfedec08bc135f01539e874eccd89aab6c79f450c3", func := "loop.example/g03204/laws.FnExactPeriodEntries", spec := "fnExactPeriodEntries", apart := false, narrowed := true }
def FnExactPeriodEntriesUptoSaid : Prop := fnExactPeriodEntriesUptoRow.holds Try.pinned (OpenSpec.upto fnExactPeriodEntriesSpec)

/-- 'laws.FnExactOrderTwo', WHERE WHAT IT READS IS OF BULK AT MOST 1048576: true; the input reads as it did. -/
def fnExactOrderTwoUptoRow : OpenClaim := { program := "ytoacpenbgkddkaa", sum := "e0ed7545a5de13b2f5e63dbfedec08bc135f01539e874eccd89aab6c79f450c3", func := "loop.example/g03204/laws.FnExactOrderTwo", spec := "fnExactOrderTwo", apart := false, narrowed := true }
def FnExactOrderTwoUptoSaid : Prop := fnExactOrderTwoUptoRow.holds Try.pinned (OpenSpec.upto fnExactOrderTwoSpec)

/-- 'laws.FnExactEntriesTwo', WHERE WHAT IT READS IS OF BULK AT MOST 1048576: true; the input reads as it did. -/
def fnExactEntriesTwoUptoRow : OpenClaim := { program := "ytoacpenbgkddkaa", sum := "e0ed7545a5de13b2f5e63dbfedec08bc135f01539e874eccd89aab6c79f450c3", func := "loop.example/g03204/laws.FnExactEntriesTwo", spec := "fnExactEntriesTwo", apart := false, narrowed := true }
def FnExactEntriesTwoUptoSaid : Prop := fnExactEntriesTwoUptoRow.holds Try.pinned (OpenSpec.upto fnExactEntriesTwoSpec)

/-- 'laws.FnExactLeastTwo', WHERE WHAT IT READS IS OF BULK AT MOST 1048576: true; the input reads as it did. -/
def fnExactLeastTwoUptoRow : OpenClaim := { program := "ytoacpenbgkddkaa", sum := "e0ed7545a5de13b2f5e63dbfedec08bc135f01539e874eccd89aab6c79f450c3", func := "loop.example/g03204/laws.FnExactLeastTwo", spec := "fnExactLeastTwo", apart := false, narrowed := true }
def FnExactLeastTwoUptoSaid : Prop := fnExactLeastTwoUptoRow.holds Try.pinned (OpenSpec.upto fnExactLeastTwoSpec)

/-- 'laws.FnModulo', WHERE WHAT IT READS IS OF BULK AT MOST 1048576: true; the input reads as it did. -/
def fnModuloUptoRow : OpenClaim := { program := "ytoacpenbgkddkaa", sum := "e0ed7545a5de13b2f5e63dbfedec08bc135f01539e874eccd89aab6c79f450c3", func := "loop.example/g03204/laws.FnModulo", spec := "fnModulo", apart := false, narrowed := true }
def FnModuloUptoSaid : Prop := fnModuloUptoRow.holds Try.pinned (OpenSpec.upto fnModuloSpec)

end Rows
end Go.Proofs.Ytoacpenbgkddkaa
