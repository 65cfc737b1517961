/-
  DERIVED. GIVEN WITH THE SEED: THE CARDS: each row of YtkdodbhkobefiaaDoorRows.lean that lists a variable, with what it lists TIED to the program's text (the seventh form; the later family's looks); each row that meets fmt, with fmt's text TOLD by the authors' own Lean function (tested against real Go, not proved from fmt's source: count such statements apart). THE CARD IS WHAT COUNTS. Prove the row's statement (the work); the ties are given (YtkdodbhkobefiaaDoorTie.lean); close each card by the builder's one call (the guide's Derived/Test/ToyasCard.lean, 'card_holds'). Laid BY PROGRAM, IN A SANDBOX (cutbox-door.mjs). By AI agents, Wed Nov 11 2026. No macro, syntax, notation, axiom, sorry.
-/
import Derived.Test.YtkdodbhkobefiaaDoorRows
import GoSem.ClaimSeven
namespace Go.Proofs.YtkdodbhkobefiaaDoor
namespace Rows

/-- THE TIED CARD OF 'laws.FnLine'. -/
def fnLineCard : Claim7 := { stood := { row := fnLineRow, standIns := [], harness := (true, "5766f1bcd8b41d69e295a9159cc6c7243b68d64f6c045affb582c98e0173b379"), looks := false }, kinds := [], alts := [], laidByText := true, laidKinds := [.data, .data], laidTests := true, laidLooks := .later }
def FnLineCardSaid : Prop := Claim7.holds Tryd.pinned (.plain (OpenSpec.ofChange fnLineSpec)) fnLineCard

/-- THE SECOND FORM's CARD OF 'laws.FnLine'. -/
def fnLineUptoCard : Claim7 := { stood := { row := fnLineUptoRow, standIns := [], harness := (true, "5766f1bcd8b41d69e295a9159cc6c7243b68d64f6c045affb582c98e0173b379"), looks := false }, kinds := [], alts := [], laidByText := true, laidKinds := [.data, .data], laidTests := true, laidLooks := .later }
def FnLineUptoCardSaid : Prop := Claim7.holds Tryd.pinned (.plain (OpenSpec.upto fnLineSpec)) fnLineUptoCard
end Rows
end Go.Proofs.YtkdodbhkobefiaaDoor
