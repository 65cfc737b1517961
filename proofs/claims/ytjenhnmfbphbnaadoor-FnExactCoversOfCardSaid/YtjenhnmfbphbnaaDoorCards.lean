/-
  DERIVED. GIVEN WITH THE SEED: THE CARDS: each row of YtjenhnmfbphbnaaDoorRows.lean that lists a variable, with what it lists TIED to the program's text (the seventh form; the later family's looks); each row that meets fmt, with fmt's text TOLD by the authors' own Lean function (tested against real Go, not proved from fmt's source: count such statements apart). THE CARD IS WHAT COUNTS. Prove the row's statement (the work); the ties are given (YtjenhnmfbphbnaaDoorTie.lean); close each card by the builder's one call (the guide's Derived/Test/ToyasCard.lean, 'card_holds'). Laid BY PROGRAM, IN A SANDBOX (cutbox-door.mjs). By AI agents, Wed Nov 11 2026. No macro, syntax, notation, axiom, sorry.
-/
import Derived.Test.YtjenhnmfbphbnaaDoorRows
import GoSem.ClaimSeven
namespace Go.Proofs.YtjenhnmfbphbnaaDoor
namespace Rows

/-- THE TIED CARD OF 'laws.FnExactCountCovers'. -/
def fnExactCountCoversCard : Claim7 := { stood := { row := fnExactCountCoversRow, standIns := [], harness := (true, "3abe9f833a8b8edb0d05945cb33223a3fcc9d5363a0a962ac53fb35b646198e0"), looks := false }, kinds := [], alts := [], laidByText := true, laidKinds := [.data, .data], laidTests := true, laidLooks := .later }
def FnExactCountCoversCardSaid : Prop := Claim7.holds Tryd.pinned (.plain (OpenSpec.ofChange fnExactCountCoversSpec)) fnExactCountCoversCard

/-- THE TIED CARD OF 'laws.FnExactLeastCover'. -/
def fnExactLeastCoverCard : Claim7 := { stood := { row := fnExactLeastCoverRow, standIns := [], harness := (true, "3abe9f833a8b8edb0d05945cb33223a3fcc9d5363a0a962ac53fb35b646198e0"), looks := false }, kinds := [], alts := [], laidByText := true, laidKinds := [.data, .data], laidTests := true, laidLooks := .later }
def FnExactLeastCoverCardSaid : Prop := Claim7.holds Tryd.pinned (.plain (OpenSpec.ofChange fnExactLeastCoverSpec)) fnExactLeastCoverCard

/-- THE TIED CARD OF 'laws.FnExactIsCover'. -/
def fnExactIsCoverCard : Claim7 := { stood := { row := fnExactIsCoverRow, standIns := [], harness := (true, "3abe9f833a8b8edb0d05945cb33223a3fcc9d5363a0a962ac53fb35b646198e0"), looks := false }, kinds := [], alts := [], laidByText := true, laidKinds := [.data, .data], laidTests := true, laidLooks := .later }
def FnExactIsCoverCardSaid : Prop := Claim7.holds Tryd.pinned (.plain (OpenSpec.ofChange fnExactIsCoverSpec)) fnExactIsCoverCard

/-- THE TIED CARD OF 'laws.FnExactCoverLengths'. -/
def fnExactCoverLengthsCard : Claim7 := { stood := { row := fnExactCoverLengthsRow, standIns := [], harness := (true, "3abe9f833a8b8edb0d05945cb33223a3fcc9d5363a0a962ac53fb35b646198e0"), looks := false }, kinds := [], alts := [], laidByText := true, laidKinds := [.data, .data], laidTests := true, laidLooks := .later }
def FnExactCoverLengthsCardSaid : Prop := Claim7.holds Tryd.pinned (.plain (OpenSpec.ofChange fnExactCoverLengthsSpec)) fnExactCoverLengthsCard

/-- THE TIED CARD OF 'laws.FnExactCoversOf'. -/
def fnExactCoversOfCard : Claim7 := { stood := { row := fnExactCoversOfRow, standIns := [], harness := (true, "3abe9f833a8b8edb0d05945cb33223a3fcc9d5363a0a962ac53fb35b646198e0"), looks := false }, kinds := [], alts := [], laidByText := true, laidKinds := [.data, .data], laidTests := true, laidLooks := .later }
def FnExactCoversOfCardSaid : Prop := Claim7.holds Tryd.pinned (.plain (OpenSpec.ofChange fnExactCoversOfSpec)) fnExactCoversOfCard

/-- THE TIED CARD OF 'laws.FnExactCoverText'. -/
def fnExactCoverTextCard : Claim7 := { stood := { row := fnExactCoverTextRow, standIns := [], harness := (true, "3abe9f833a8b8edb0d05945cb33223a3fcc9d5363a0a962ac53fb35b646198e0"), looks := false }, kinds := [], alts := [], laidByText := true, laidKinds := [.data, .data], laidTests := true, laidLooks := .later }
def FnExactCoverTextCardSaid : Prop := Claim7.holds Tryd.pinned (.plain (OpenSpec.ofChange fnExactCoverTextSpec)) fnExactCoverTextCard

/-- THE TIED CARD OF 'laws.FnCovers'. -/
def fnCoversCard : Claim7 := { stood := { row := fnCoversRow, standIns := [], harness := (true, "3abe9f833a8b8edb0d05945cb33223a3fcc9d5363a0a962ac53fb35b646198e0"), looks := false }, kinds := [], alts := [], laidByText := true, laidKinds := [.data, .data], laidTests := true, laidLooks := .later }
def FnCoversCardSaid : Prop := Claim7.holds Tryd.pinned (.plain (OpenSpec.ofChange fnCoversSpec)) fnCoversCard

/-- THE SECOND FORM's CARD OF 'laws.FnExactCountCovers'. -/
def fnExactCountCoversUptoCard : Claim7 := { stood := { row := fnExactCountCoversUptoRow, standIns := [], harness := (true, "3abe9f833a8b8edb0d05945cb33223a3fcc9d5363a0a962ac53fb35b646198e0"), looks := false }, kinds := [], alts := [], laidByText := true, laidKinds := [.data, .data], laidTests := true, laidLooks := .later }
def FnExactCountCoversUptoCardSaid : Prop := Claim7.holds Tryd.pinned (.plain (OpenSpec.upto fnExactCountCoversSpec)) fnExactCountCoversUptoCard

/-- THE SECOND FORM's CARD OF 'laws.FnExactLeastCover'. -/
def fnExactLeastCoverUptoCard : Claim7 := { stood := { row := fnExactLeastCoverUptoRow, standIns := [], harness := (true, "3abe9f833a8b8edb0d05945cb33223a3fcc9d5363a0a962ac53fb35b646198e0"), looks := false }, kinds := [], alts := [], laidByText := true, laidKinds := [.data, .data], laidTests := true, laidLooks := .later }
def FnExactLeastCoverUptoCardSaid : Prop := Claim7.holds Tryd.pinned (.plain (OpenSpec.upto fnExactLeastCoverSpec)) fnExactLeastCoverUptoCard

/-- THE SECOND FORM's CARD OF 'laws.FnExactIsCover'. -/
def fnExactIsCoverUptoCard : Claim7 := { stood := { row := fnExactIsCoverUptoRow, standIns := [], harness := (true, "3abe9f833a8b8edb0d05945cb33223a3fcc9d5363a0a962ac53fb35b646198e0"), looks := false }, kinds := [], alts := [], laidByText := true, laidKinds := [.data, .data], laidTests := true, laidLooks := .later }
def FnExactIsCoverUptoCardSaid : Prop := Claim7.holds Tryd.pinned (.plain (OpenSpec.upto fnExactIsCoverSpec)) fnExactIsCoverUptoCard

/-- THE SECOND FORM's CARD OF 'laws.FnExactCoverLengths'. -/
def fnExactCoverLengthsUptoCard : Claim7 := { stood := { row := fnExactCoverLengthsUptoRow, standIns := [], harness := (true, "3abe9f833a8b8edb0d05945cb33223a3fcc9d5363a0a962ac53fb35b646198e0"), looks := false }, kinds := [], alts := [], laidByText := true, laidKinds := [.data, .data], laidTests := true, laidLooks := .later }
def FnExactCoverLengthsUptoCardSaid : Prop := Claim7.holds Tryd.pinned (.plain (OpenSpec.upto fnExactCoverLengthsSpec)) fnExactCoverLengthsUptoCard

/-- THE SECOND FORM's CARD OF 'laws.FnExactCoversOf'. -/
def fnExactCoversOfUptoCard : Claim7 := { stood := { row := fnExactCoversOfUptoRow, standIns := [], harness := (true, "3abe9f833a8b8edb0d05945cb33223a3fcc9d5363a0a962ac53fb35b646198e0"), looks := false }, kinds := [], alts := [], laidByText := true, laidKinds := [.data, .data], laidTests := true, laidLooks := .later }
def FnExactCoversOfUptoCardSaid : Prop := Claim7.holds Tryd.pinned (.plain (OpenSpec.upto fnExactCoversOfSpec)) fnExactCoversOfUptoCard

/-- THE SECOND FORM's CARD OF 'laws.FnExactCoverText'. -/
def fnExactCoverTextUptoCard : Claim7 := { stood := { row := fnExactCoverTextUptoRow, standIns := [], harness := (true, "3abe9f833a8b8edb0d05945cb33223a3fcc9d5363a0a962ac53fb35b646198e0"), looks := false }, kinds := [], alts := [], laidByText := true, laidKinds := [.data, .data], laidTests := true, laidLooks := .later }
def FnExactCoverTextUptoCardSaid : Prop := Claim7.holds Tryd.pinned (.plain (OpenSpec.upto fnExactCoverTextSpec)) fnExactCoverTextUptoCard

/-- THE SECOND FORM's CARD OF 'laws.FnCovers'. -/
def fnCoversUptoCard : Claim7 := { stood := { row := fnCoversUptoRow, standIns := [], harness := (true, "3abe9f833a8b8edb0d05945cb33223a3fcc9d5363a0a962ac53fb35b646198e0"), looks := false }, kinds := [], alts := [], laidByText := true, laidKinds := [.data, .data], laidTests := true, laidLooks := .later }
def FnCoversUptoCardSaid : Prop := Claim7.holds Tryd.pinned (.plain (OpenSpec.upto fnCoversSpec)) fnCoversUptoCard
end Rows
end Go.Proofs.YtjenhnmfbphbnaaDoor
