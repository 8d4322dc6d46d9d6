/-
  DERIVED. GIVEN WITH THE SEED: THE CARDS: each row of YtggdcnjaofflbaaGreatDoorRows.lean that lists a variable, with what it lists TIED to the program's text (the seventh form; the later family's looks); each row that meets fmt, with fmt's text TOLD by the authors' own Lean function (tested against real Go, not proved from fmt's source: count such statements apart). THE CARD IS WHAT COUNTS. Prove the row's statement (the work); the ties are given (YtggdcnjaofflbaaGreatDoorTie.lean); close each card by the builder's one call (the guide's Derived/Test/ToyasCard.lean, 'card_holds'). Laid BY PROGRAM, IN A SANDBOX (cutbox-door.mjs). By AI agents, Wed Nov 11 2026. No macro, syntax, notation, axiom, sorry.
-/
import Derived.Test.YtggdcnjaofflbaaGreatDoorRows
import GoSem.ClaimSeven
namespace Go.Proofs.YtggdcnjaofflbaaGreatDoor
namespace Rows

/-- THE TIED CARD OF 'dialtonelaw19.QuorumMatchesReference'. -/
def quorumMatchesReferenceCard : Claim7 := { stood := { row := quorumMatchesReferenceRow, standIns := [], harness := (true, "689226d467274a35d2808d3879eba2d2cc03da1a6d8ca338d99b38cb30cf8efd"), looks := false }, kinds := [], alts := [], laidByText := true, laidKinds := [.data, .data, .data], laidTests := true, laidLooks := .later }
def QuorumMatchesReferenceCardSaid : Prop := Claim7.holds Tryz.pinned (.plain (OpenSpec.ofChange quorumMatchesReferenceSpec)) quorumMatchesReferenceCard

/-- THE TIED CARD OF 'dialtonelaw19.QuorumOne'. -/
def quorumOneCard : Claim7 := { stood := { row := quorumOneRow, standIns := [], harness := (true, "689226d467274a35d2808d3879eba2d2cc03da1a6d8ca338d99b38cb30cf8efd"), looks := false }, kinds := [], alts := [], laidByText := true, laidKinds := [.data, .data, .data], laidTests := true, laidLooks := .later }
def QuorumOneCardSaid : Prop := Claim7.holds Tryz.pinned (.plain (OpenSpec.ofChange quorumOneSpec)) quorumOneCard

/-- THE TIED CARD OF 'dialtonelaw19.QuorumHonest'. -/
def quorumHonestCard : Claim7 := { stood := { row := quorumHonestRow, standIns := [], harness := (true, "689226d467274a35d2808d3879eba2d2cc03da1a6d8ca338d99b38cb30cf8efd"), looks := false }, kinds := [], alts := [], laidByText := true, laidKinds := [.data, .data, .data], laidTests := true, laidLooks := .later }
def QuorumHonestCardSaid : Prop := Claim7.holds Tryz.pinned (.plain (OpenSpec.ofChange quorumHonestSpec)) quorumHonestCard

/-- THE TIED CARD OF 'dialtonelaw19.QuorumProves'. -/
def quorumProvesCard : Claim7 := { stood := { row := quorumProvesRow, standIns := [], harness := (true, "689226d467274a35d2808d3879eba2d2cc03da1a6d8ca338d99b38cb30cf8efd"), looks := false }, kinds := [], alts := [], laidByText := true, laidKinds := [.data, .data, .data], laidTests := true, laidLooks := .later }
def QuorumProvesCardSaid : Prop := Claim7.holds Tryz.pinned (.plain (OpenSpec.ofChange quorumProvesSpec)) quorumProvesCard

/-- THE TIED CARD OF 'dialtonelaw19.QuorumSuffices'. -/
def quorumSufficesCard : Claim7 := { stood := { row := quorumSufficesRow, standIns := [], harness := (true, "689226d467274a35d2808d3879eba2d2cc03da1a6d8ca338d99b38cb30cf8efd"), looks := false }, kinds := [], alts := [], laidByText := true, laidKinds := [.data, .data, .data], laidTests := true, laidLooks := .later }
def QuorumSufficesCardSaid : Prop := Claim7.holds Tryz.pinned (.plain (OpenSpec.ofChange quorumSufficesSpec)) quorumSufficesCard

/-- THE TIED CARD OF 'dialtonelaw19.QuorumGrows'. -/
def quorumGrowsCard : Claim7 := { stood := { row := quorumGrowsRow, standIns := [], harness := (true, "689226d467274a35d2808d3879eba2d2cc03da1a6d8ca338d99b38cb30cf8efd"), looks := false }, kinds := [], alts := [], laidByText := true, laidKinds := [.data, .data, .data], laidTests := true, laidLooks := .later }
def QuorumGrowsCardSaid : Prop := Claim7.holds Tryz.pinned (.plain (OpenSpec.ofChange quorumGrowsSpec)) quorumGrowsCard

/-- THE TIED CARD OF 'dialtonelaw19.QuorumCodes'. -/
def quorumCodesCard : Claim7 := { stood := { row := quorumCodesRow, standIns := [], harness := (true, "689226d467274a35d2808d3879eba2d2cc03da1a6d8ca338d99b38cb30cf8efd"), looks := false }, kinds := [], alts := [], laidByText := true, laidKinds := [.data, .data, .data], laidTests := true, laidLooks := .later }
def QuorumCodesCardSaid : Prop := Claim7.holds Tryz.pinned (.plain (OpenSpec.ofChange quorumCodesSpec)) quorumCodesCard

/-- THE TIED CARD OF 'dialtonelaw19.QuorumMeets'. -/
def quorumMeetsCard : Claim7 := { stood := { row := quorumMeetsRow, standIns := [], harness := (true, "689226d467274a35d2808d3879eba2d2cc03da1a6d8ca338d99b38cb30cf8efd"), looks := false }, kinds := [], alts := [], laidByText := true, laidKinds := [.data, .data, .data], laidTests := true, laidLooks := .later }
def QuorumMeetsCardSaid : Prop := Claim7.holds Tryz.pinned (.plain (OpenSpec.ofChange quorumMeetsSpec)) quorumMeetsCard

/-- THE SECOND FORM's CARD OF 'dialtonelaw19.QuorumMatchesReference'. -/
def quorumMatchesReferenceUptoCard : Claim7 := { stood := { row := quorumMatchesReferenceUptoRow, standIns := [], harness := (true, "689226d467274a35d2808d3879eba2d2cc03da1a6d8ca338d99b38cb30cf8efd"), looks := false }, kinds := [], alts := [], laidByText := true, laidKinds := [.data, .data, .data], laidTests := true, laidLooks := .later }
def QuorumMatchesReferenceUptoCardSaid : Prop := Claim7.holds Tryz.pinned (.plain (OpenSpec.upto quorumMatchesReferenceSpec)) quorumMatchesReferenceUptoCard

/-- THE SECOND FORM's CARD OF 'dialtonelaw19.QuorumOne'. -/
def quorumOneUptoCard : Claim7 := { stood := { row := quorumOneUptoRow, standIns := [], harness := (true, "689226d467274a35d2808d3879eba2d2cc03da1a6d8ca338d99b38cb30cf8efd"), looks := false }, kinds := [], alts := [], laidByText := true, laidKinds := [.data, .data, .data], laidTests := true, laidLooks := .later }
def QuorumOneUptoCardSaid : Prop := Claim7.holds Tryz.pinned (.plain (OpenSpec.upto quorumOneSpec)) quorumOneUptoCard

/-- THE SECOND FORM's CARD OF 'dialtonelaw19.QuorumHonest'. -/
def quorumHonestUptoCard : Claim7 := { stood := { row := quorumHonestUptoRow, standIns := [], harness := (true, "689226d467274a35d2808d3879eba2d2cc03da1a6d8ca338d99b38cb30cf8efd"), looks := false }, kinds := [], alts := [], laidByText := true, laidKinds := [.data, .data, .data], laidTests := true, laidLooks := .later }
def QuorumHonestUptoCardSaid : Prop := Claim7.holds Tryz.pinned (.plain (OpenSpec.upto quorumHonestSpec)) quorumHonestUptoCard

/-- THE SECOND FORM's CARD OF 'dialtonelaw19.QuorumProves'. -/
def quorumProvesUptoCard : Claim7 := { stood := { row := quorumProvesUptoRow, standIns := [], harness := (true, "689226d467274a35d2808d3879eba2d2cc03da1a6d8ca338d99b38cb30cf8efd"), looks := false }, kinds := [], alts := [], laidByText := true, laidKinds := [.data, .data, .data], laidTests := true, laidLooks := .later }
def QuorumProvesUptoCardSaid : Prop := Claim7.holds Tryz.pinned (.plain (OpenSpec.upto quorumProvesSpec)) quorumProvesUptoCard

/-- THE SECOND FORM's CARD OF 'dialtonelaw19.QuorumSuffices'. -/
def quorumSufficesUptoCard : Claim7 := { stood := { row := quorumSufficesUptoRow, standIns := [], harness := (true, "689226d467274a35d2808d3879eba2d2cc03da1a6d8ca338d99b38cb30cf8efd"), looks := false }, kinds := [], alts := [], laidByText := true, laidKinds := [.data, .data, .data], laidTests := true, laidLooks := .later }
def QuorumSufficesUptoCardSaid : Prop := Claim7.holds Tryz.pinned (.plain (OpenSpec.upto quorumSufficesSpec)) quorumSufficesUptoCard

/-- THE SECOND FORM's CARD OF 'dialtonelaw19.QuorumGrows'. -/
def quorumGrowsUptoCard : Claim7 := { stood := { row := quorumGrowsUptoRow, standIns := [], harness := (true, "689226d467274a35d2808d3879eba2d2cc03da1a6d8ca338d99b38cb30cf8efd"), looks := false }, kinds := [], alts := [], laidByText := true, laidKinds := [.data, .data, .data], laidTests := true, laidLooks := .later }
def QuorumGrowsUptoCardSaid : Prop := Claim7.holds Tryz.pinned (.plain (OpenSpec.upto quorumGrowsSpec)) quorumGrowsUptoCard

/-- THE SECOND FORM's CARD OF 'dialtonelaw19.QuorumCodes'. -/
def quorumCodesUptoCard : Claim7 := { stood := { row := quorumCodesUptoRow, standIns := [], harness := (true, "689226d467274a35d2808d3879eba2d2cc03da1a6d8ca338d99b38cb30cf8efd"), looks := false }, kinds := [], alts := [], laidByText := true, laidKinds := [.data, .data, .data], laidTests := true, laidLooks := .later }
def QuorumCodesUptoCardSaid : Prop := Claim7.holds Tryz.pinned (.plain (OpenSpec.upto quorumCodesSpec)) quorumCodesUptoCard

/-- THE SECOND FORM's CARD OF 'dialtonelaw19.QuorumMeets'. -/
def quorumMeetsUptoCard : Claim7 := { stood := { row := quorumMeetsUptoRow, standIns := [], harness := (true, "689226d467274a35d2808d3879eba2d2cc03da1a6d8ca338d99b38cb30cf8efd"), looks := false }, kinds := [], alts := [], laidByText := true, laidKinds := [.data, .data, .data], laidTests := true, laidLooks := .later }
def QuorumMeetsUptoCardSaid : Prop := Claim7.holds Tryz.pinned (.plain (OpenSpec.upto quorumMeetsSpec)) quorumMeetsUptoCard
end Rows
end Go.Proofs.YtggdcnjaofflbaaGreatDoor
