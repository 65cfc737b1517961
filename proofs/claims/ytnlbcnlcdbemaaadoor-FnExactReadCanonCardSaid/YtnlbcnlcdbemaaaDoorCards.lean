/-
  DERIVED. GIVEN WITH THE SEED: THE CARDS: each row of YtnlbcnlcdbemaaaDoorRows.lean that lists a variable, with what it lists TIED to the program's text (the seventh form; the later family's looks); each row that meets fmt, with fmt's text TOLD by the authors' own Lean function (tested against real Go, not proved from fmt's source: count such statements apart). THE CARD IS WHAT COUNTS. Prove the row's statement (the work); the ties are given (YtnlbcnlcdbemaaaDoorTie.lean); close each card by the builder's one call (the guide's Derived/Test/ToyasCard.lean, 'card_holds'). Laid BY PROGRAM, IN A SANDBOX (cutbox-door.mjs). By AI agents, Wed Nov 11 2026. No macro, syntax, notation, axiom, sorry.
-/
import Derived.Test.YtnlbcnlcdbemaaaDoorRows
import GoSem.ClaimSeven
namespace Go.Proofs.YtnlbcnlcdbemaaaDoor
namespace Rows

/-- THE TIED CARD OF 'laws.FnExactReadCanon'. -/
def fnExactReadCanonCard : Claim7 := { stood := { row := fnExactReadCanonRow, standIns := [], harness := (true, "3d61dc4ed673902300f1e2e76354d59075a5c853893f36ac920e66a55531a862"), looks := false }, kinds := [], alts := [], laidByText := true, laidKinds := [.data, .pinned], laidTests := true, laidLooks := .later }
def FnExactReadCanonCardSaid : Prop := Claim7.holds Tryd.pinned (.plain (OpenSpec.ofChange fnExactReadCanonSpec)) fnExactReadCanonCard

/-- THE SECOND FORM's CARD OF 'laws.FnExactReadCanon'. -/
def fnExactReadCanonUptoCard : Claim7 := { stood := { row := fnExactReadCanonUptoRow, standIns := [], harness := (true, "3d61dc4ed673902300f1e2e76354d59075a5c853893f36ac920e66a55531a862"), looks := false }, kinds := [], alts := [], laidByText := true, laidKinds := [.data, .pinned], laidTests := true, laidLooks := .later }
def FnExactReadCanonUptoCardSaid : Prop := Claim7.holds Tryd.pinned (.plain (OpenSpec.upto fnExactReadCanonSpec)) fnExactReadCanonUptoCard
end Rows
end Go.Proofs.YtnlbcnlcdbemaaaDoor
