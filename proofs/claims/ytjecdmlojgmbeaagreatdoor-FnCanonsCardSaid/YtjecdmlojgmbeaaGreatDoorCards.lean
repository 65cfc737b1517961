/-
  DERIVED. GIVEN WITH THE SEED: THE CARDS: each row of YtjecdmlojgmbeaaGreatDoorRows.lean that lists a variable, with what it lists TIED to the program's text (the seventh form; the later family's looks); each row that meets fmt, with fmt's text TOLD by the authors' own Lean function (tested against real Go, not proved from fmt's source: count such statements apart). THE CARD IS WHAT COUNTS. Prove the row's statement (the work); the ties are given (YtjecdmlojgmbeaaGreatDoorTie.lean); close each card by the builder's one call (the guide's Derived/Test/ToyasCard.lean, 'card_holds'). Laid BY PROGRAM, IN A SANDBOX (cutbox-door.mjs). By AI agents, Wed Nov 11 2026. No macro, syntax, notation, axiom, sorry.
-/
import Derived.Test.YtjecdmlojgmbeaaGreatDoorRows
import GoSem.ClaimSeven
namespace Go.Proofs.YtjecdmlojgmbeaaGreatDoor
namespace Rows

/-- THE TIED CARD OF 'laws.FnCanons'. -/
def fnCanonsCard : Claim7 := { stood := { row := fnCanonsRow, standIns := [], harness := (true, "493c30f0ddb18161dd26a90fb29a8bbfe7e6d3aed0499675c2703e9d53d72c93"), looks := false }, kinds := [], alts := [], laidByText := true, laidKinds := [.data, .pinned], laidTests := true, laidLooks := .later }
def FnCanonsCardSaid : Prop := Claim7.holds Tryz.pinned (.plain (OpenSpec.ofChange fnCanonsSpec)) fnCanonsCard

/-- THE SECOND FORM's CARD OF 'laws.FnCanons'. -/
def fnCanonsUptoCard : Claim7 := { stood := { row := fnCanonsUptoRow, standIns := [], harness := (true, "493c30f0ddb18161dd26a90fb29a8bbfe7e6d3aed0499675c2703e9d53d72c93"), looks := false }, kinds := [], alts := [], laidByText := true, laidKinds := [.data, .pinned], laidTests := true, laidLooks := .later }
def FnCanonsUptoCardSaid : Prop := Claim7.holds Tryz.pinned (.plain (OpenSpec.upto fnCanonsSpec)) fnCanonsUptoCard
end Rows
end Go.Proofs.YtjecdmlojgmbeaaGreatDoor
