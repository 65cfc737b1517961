/-
  DERIVED. GIVEN WITH THE SEED: THE CARDS: each row of YtpnbcgnbkanebaaDoorRows.lean that lists a variable, with what it lists TIED to the program's text (the seventh form; the later family's looks); each row that meets fmt, with fmt's text TOLD by the authors' own Lean function (tested against real Go, not proved from fmt's source: count such statements apart). THE CARD IS WHAT COUNTS. Prove the row's statement (the work); the ties are given (YtpnbcgnbkanebaaDoorTie.lean); close each card by the builder's one call (the guide's Derived/Test/ToyasCard.lean, 'card_holds'). Laid BY PROGRAM, IN A SANDBOX (cutbox-door.mjs). By AI agents, Wed Nov 11 2026. No macro, syntax, notation, axiom, sorry.
-/
import Derived.Test.YtpnbcgnbkanebaaDoorRows
import GoSem.ClaimSeven
namespace Go.Proofs.YtpnbcgnbkanebaaDoor
namespace Rows

/-- THE TIED CARD OF 'laws.FnExactIsCover'. -/
def fnExactIsCoverCard : Claim7 := { stood := { row := fnExactIsCoverRow, standIns := [], harness := (true, "bc658f82d9fcc92c8d6e5f91ba9b7d79da6686ebec8cec489acae7accacc7ebf"), looks := false }, kinds := [], alts := [], laidByText := true, laidKinds := [.data, .data], laidTests := true, laidLooks := .later }
def FnExactIsCoverCardSaid : Prop := Claim7.holds Tryd.pinned (.plain (OpenSpec.ofChange fnExactIsCoverSpec)) fnExactIsCoverCard

/-- THE TIED CARD OF 'laws.FnExactCoverText'. -/
def fnExactCoverTextCard : Claim7 := { stood := { row := fnExactCoverTextRow, standIns := [], harness := (true, "bc658f82d9fcc92c8d6e5f91ba9b7d79da6686ebec8cec489acae7accacc7ebf"), looks := false }, kinds := [], alts := [], laidByText := true, laidKinds := [.data, .data], laidTests := true, laidLooks := .later }
def FnExactCoverTextCardSaid : Prop := Claim7.holds Tryd.pinned (.plain (OpenSpec.ofChange fnExactCoverTextSpec)) fnExactCoverTextCard

/-- THE TIED CARD OF 'laws.FnCovers'. -/
def fnCoversCard : Claim7 := { stood := { row := fnCoversRow, standIns := [], harness := (true, "bc658f82d9fcc92c8d6e5f91ba9b7d79da6686ebec8cec489acae7accacc7ebf"), looks := false }, kinds := [], alts := [], laidByText := true, laidKinds := [.data, .data], laidTests := true, laidLooks := .later }
def FnCoversCardSaid : Prop := Claim7.holds Tryd.pinned (.plain (OpenSpec.ofChange fnCoversSpec)) fnCoversCard

/-- THE SECOND FORM's CARD OF 'laws.FnExactIsCover'. -/
def fnExactIsCoverUptoCard : Claim7 := { stood := { row := fnExactIsCoverUptoRow, standIns := [], harness := (true, "bc658f82d9fcc92c8d6e5f91ba9b7d79da6686ebec8cec489acae7accacc7ebf"), looks := false }, kinds := [], alts := [], laidByText := true, laidKinds := [.data, .data], laidTests := true, laidLooks := .later }
def FnExactIsCoverUptoCardSaid : Prop := Claim7.holds Tryd.pinned (.plain (OpenSpec.upto fnExactIsCoverSpec)) fnExactIsCoverUptoCard

/-- THE SECOND FORM's CARD OF 'laws.FnExactCoverText'. -/
def fnExactCoverTextUptoCard : Claim7 := { stood := { row := fnExactCoverTextUptoRow, standIns := [], harness := (true, "bc658f82d9fcc92c8d6e5f91ba9b7d79da6686ebec8cec489acae7accacc7ebf"), looks := false }, kinds := [], alts := [], laidByText := true, laidKinds := [.data, .data], laidTests := true, laidLooks := .later }
def FnExactCoverTextUptoCardSaid : Prop := Claim7.holds Tryd.pinned (.plain (OpenSpec.upto fnExactCoverTextSpec)) fnExactCoverTextUptoCard

/-- THE SECOND FORM's CARD OF 'laws.FnCovers'. -/
def fnCoversUptoCard : Claim7 := { stood := { row := fnCoversUptoRow, standIns := [], harness := (true, "bc658f82d9fcc92c8d6e5f91ba9b7d79da6686ebec8cec489acae7accacc7ebf"), looks := false }, kinds := [], alts := [], laidByText := true, laidKinds := [.data, .data], laidTests := true, laidLooks := .later }
def FnCoversUptoCardSaid : Prop := Claim7.holds Tryd.pinned (.plain (OpenSpec.upto fnCoversSpec)) fnCoversUptoCard
end Rows
end Go.Proofs.YtpnbcgnbkanebaaDoor
