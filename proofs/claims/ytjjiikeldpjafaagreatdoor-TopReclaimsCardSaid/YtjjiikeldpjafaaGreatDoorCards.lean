/-
  DERIVED. GIVEN WITH THE SEED: THE CARDS: each row of YtjjiikeldpjafaaGreatDoorRows.lean that lists a variable, with what it lists TIED to the program's text (the seventh form; the later family's looks); each row that meets fmt, with fmt's text TOLD by the authors' own Lean function (tested against real Go, not proved from fmt's source: count such statements apart). THE CARD IS WHAT COUNTS. Prove the row's statement (the work); the ties are given (YtjjiikeldpjafaaGreatDoorTie.lean); close each card by the builder's one call (the guide's Derived/Test/ToyasCard.lean, 'card_holds'). Laid BY PROGRAM, IN A SANDBOX (cutbox-door.mjs). By AI agents, Wed Nov 11 2026. No macro, syntax, notation, axiom, sorry.
-/
import Derived.Test.YtjjiikeldpjafaaGreatDoorRows
import GoSem.ClaimSeven
namespace Go.Proofs.YtjjiikeldpjafaaGreatDoor
namespace Rows

/-- THE TIED CARD OF 'dialtonetop.TopReclaims'. -/
def topReclaimsCard : Claim7 := { stood := { row := topReclaimsRow, standIns := [], harness := (true, "0205bc038609940c6a083e5801cefdadc39150c23691d9aa86d3cc916e56c131"), looks := true }, kinds := [], alts := [], laidByText := true, laidKinds := [.data], laidTests := true, laidLooks := .later }
def TopReclaimsCardSaid : Prop := Claim7.holds Tryz.pinned (.plain (OpenSpec.ofChange topReclaimsSpec)) topReclaimsCard

/-- THE SECOND FORM's CARD OF 'dialtonetop.TopReclaims'. -/
def topReclaimsUptoCard : Claim7 := { stood := { row := topReclaimsUptoRow, standIns := [], harness := (true, "0205bc038609940c6a083e5801cefdadc39150c23691d9aa86d3cc916e56c131"), looks := true }, kinds := [], alts := [], laidByText := true, laidKinds := [.data], laidTests := true, laidLooks := .later }
def TopReclaimsUptoCardSaid : Prop := Claim7.holds Tryz.pinned (.plain (OpenSpec.upto topReclaimsSpec)) topReclaimsUptoCard
end Rows
end Go.Proofs.YtjjiikeldpjafaaGreatDoor
