/-
  DERIVED. GIVEN WITH THE SEED: THE CARDS: each row of YtinfpbkbnhcifaaGreatDoorRows.lean that lists a variable, with what it lists TIED to the program's text (the seventh form; the later family's looks); each row that meets fmt, with fmt's text TOLD by the authors' own Lean function (tested against real Go, not proved from fmt's source: count such statements apart). THE CARD IS WHAT COUNTS. Prove the row's statement (the work); the ties are given (YtinfpbkbnhcifaaGreatDoorTie.lean); close each card by the builder's one call (the guide's Derived/Test/ToyasCard.lean, 'card_holds'). Laid BY PROGRAM, IN A SANDBOX (cutbox-door.mjs). By AI agents, Wed Nov 11 2026. No macro, syntax, notation, axiom, sorry.
-/
import Derived.Test.YtinfpbkbnhcifaaGreatDoorRows
import GoSem.ClaimSeven
namespace Go.Proofs.YtinfpbkbnhcifaaGreatDoor
namespace Rows

/-- THE TIED CARD OF 'dialtonelaw18.RegisterPartsMatchReference'. -/
def registerPartsMatchReferenceCard : Claim7 := { stood := { row := registerPartsMatchReferenceRow, standIns := [], harness := (true, "625840302792a8c0aefb5bddc5778df36dc558363332a159d2848390dab9de2e"), looks := false }, kinds := [], alts := [], laidByText := true, laidKinds := [.data], laidTests := true, laidLooks := .later }
def RegisterPartsMatchReferenceCardSaid : Prop := Claim7.holds Tryz.pinned (.plain (OpenSpec.ofChange registerPartsMatchReferenceSpec)) registerPartsMatchReferenceCard

/-- THE TIED CARD OF 'dialtonelaw18.RegisterShows'. -/
def registerShowsCard : Claim7 := { stood := { row := registerShowsRow, standIns := [], harness := (true, "625840302792a8c0aefb5bddc5778df36dc558363332a159d2848390dab9de2e"), looks := false }, kinds := [], alts := [], laidByText := true, laidKinds := [.data], laidTests := true, laidLooks := .later }
def RegisterShowsCardSaid : Prop := Claim7.holds Tryz.pinned (.plain (OpenSpec.ofChange registerShowsSpec)) registerShowsCard

/-- THE TIED CARD OF 'dialtonelaw18.RegisterGrows'. -/
def registerGrowsCard : Claim7 := { stood := { row := registerGrowsRow, standIns := [], harness := (true, "625840302792a8c0aefb5bddc5778df36dc558363332a159d2848390dab9de2e"), looks := false }, kinds := [], alts := [], laidByText := true, laidKinds := [.data], laidTests := true, laidLooks := .later }
def RegisterGrowsCardSaid : Prop := Claim7.holds Tryz.pinned (.plain (OpenSpec.ofChange registerGrowsSpec)) registerGrowsCard

/-- THE TIED CARD OF 'dialtonelaw18.RegisterHonest'. -/
def registerHonestCard : Claim7 := { stood := { row := registerHonestRow, standIns := [], harness := (true, "625840302792a8c0aefb5bddc5778df36dc558363332a159d2848390dab9de2e"), looks := false }, kinds := [], alts := [], laidByText := true, laidKinds := [.data], laidTests := true, laidLooks := .later }
def RegisterHonestCardSaid : Prop := Claim7.holds Tryz.pinned (.plain (OpenSpec.ofChange registerHonestSpec)) registerHonestCard

/-- THE TIED CARD OF 'dialtonelaw18.RegisterConvicts'. -/
def registerConvictsCard : Claim7 := { stood := { row := registerConvictsRow, standIns := [], harness := (true, "625840302792a8c0aefb5bddc5778df36dc558363332a159d2848390dab9de2e"), looks := false }, kinds := [], alts := [], laidByText := true, laidKinds := [.data], laidTests := true, laidLooks := .later }
def RegisterConvictsCardSaid : Prop := Claim7.holds Tryz.pinned (.plain (OpenSpec.ofChange registerConvictsSpec)) registerConvictsCard

/-- THE TIED CARD OF 'dialtonelaw18.RegisterHeads'. -/
def registerHeadsCard : Claim7 := { stood := { row := registerHeadsRow, standIns := [], harness := (true, "625840302792a8c0aefb5bddc5778df36dc558363332a159d2848390dab9de2e"), looks := false }, kinds := [], alts := [], laidByText := true, laidKinds := [.data], laidTests := true, laidLooks := .later }
def RegisterHeadsCardSaid : Prop := Claim7.holds Tryz.pinned (.plain (OpenSpec.ofChange registerHeadsSpec)) registerHeadsCard

/-- THE TIED CARD OF 'dialtonelaw18.RegisterJoins'. -/
def registerJoinsCard : Claim7 := { stood := { row := registerJoinsRow, standIns := [], harness := (true, "625840302792a8c0aefb5bddc5778df36dc558363332a159d2848390dab9de2e"), looks := false }, kinds := [], alts := [], laidByText := true, laidKinds := [.data], laidTests := true, laidLooks := .later }
def RegisterJoinsCardSaid : Prop := Claim7.holds Tryz.pinned (.plain (OpenSpec.ofChange registerJoinsSpec)) registerJoinsCard

/-- THE TIED CARD OF 'dialtonelaw18.RegisterMatchesReference'. -/
def registerMatchesReferenceCard : Claim7 := { stood := { row := registerMatchesReferenceRow, standIns := [], harness := (true, "625840302792a8c0aefb5bddc5778df36dc558363332a159d2848390dab9de2e"), looks := false }, kinds := [], alts := [], laidByText := true, laidKinds := [.data], laidTests := true, laidLooks := .later }
def RegisterMatchesReferenceCardSaid : Prop := Claim7.holds Tryz.pinned (.plain (OpenSpec.ofChange registerMatchesReferenceSpec)) registerMatchesReferenceCard

/-- THE TIED CARD OF 'dialtonelaw18.RegisterAppends'. -/
def registerAppendsCard : Claim7 := { stood := { row := registerAppendsRow, standIns := [], harness := (true, "625840302792a8c0aefb5bddc5778df36dc558363332a159d2848390dab9de2e"), looks := false }, kinds := [], alts := [], laidByText := true, laidKinds := [.data], laidTests := true, laidLooks := .later }
def RegisterAppendsCardSaid : Prop := Claim7.holds Tryz.pinned (.plain (OpenSpec.ofChange registerAppendsSpec)) registerAppendsCard

/-- THE SECOND FORM's CARD OF 'dialtonelaw18.RegisterPartsMatchReference'. -/
def registerPartsMatchReferenceUptoCard : Claim7 := { stood := { row := registerPartsMatchReferenceUptoRow, standIns := [], harness := (true, "625840302792a8c0aefb5bddc5778df36dc558363332a159d2848390dab9de2e"), looks := false }, kinds := [], alts := [], laidByText := true, laidKinds := [.data], laidTests := true, laidLooks := .later }
def RegisterPartsMatchReferenceUptoCardSaid : Prop := Claim7.holds Tryz.pinned (.plain (OpenSpec.upto registerPartsMatchReferenceSpec)) registerPartsMatchReferenceUptoCard

/-- THE SECOND FORM's CARD OF 'dialtonelaw18.RegisterShows'. -/
def registerShowsUptoCard : Claim7 := { stood := { row := registerShowsUptoRow, standIns := [], harness := (true, "625840302792a8c0aefb5bddc5778df36dc558363332a159d2848390dab9de2e"), looks := false }, kinds := [], alts := [], laidByText := true, laidKinds := [.data], laidTests := true, laidLooks := .later }
def RegisterShowsUptoCardSaid : Prop := Claim7.holds Tryz.pinned (.plain (OpenSpec.upto registerShowsSpec)) registerShowsUptoCard

/-- THE SECOND FORM's CARD OF 'dialtonelaw18.RegisterGrows'. -/
def registerGrowsUptoCard : Claim7 := { stood := { row := registerGrowsUptoRow, standIns := [], harness := (true, "625840302792a8c0aefb5bddc5778df36dc558363332a159d2848390dab9de2e"), looks := false }, kinds := [], alts := [], laidByText := true, laidKinds := [.data], laidTests := true, laidLooks := .later }
def RegisterGrowsUptoCardSaid : Prop := Claim7.holds Tryz.pinned (.plain (OpenSpec.upto registerGrowsSpec)) registerGrowsUptoCard

/-- THE SECOND FORM's CARD OF 'dialtonelaw18.RegisterHonest'. -/
def registerHonestUptoCard : Claim7 := { stood := { row := registerHonestUptoRow, standIns := [], harness := (true, "625840302792a8c0aefb5bddc5778df36dc558363332a159d2848390dab9de2e"), looks := false }, kinds := [], alts := [], laidByText := true, laidKinds := [.data], laidTests := true, laidLooks := .later }
def RegisterHonestUptoCardSaid : Prop := Claim7.holds Tryz.pinned (.plain (OpenSpec.upto registerHonestSpec)) registerHonestUptoCard

/-- THE SECOND FORM's CARD OF 'dialtonelaw18.RegisterConvicts'. -/
def registerConvictsUptoCard : Claim7 := { stood := { row := registerConvictsUptoRow, standIns := [], harness := (true, "625840302792a8c0aefb5bddc5778df36dc558363332a159d2848390dab9de2e"), looks := false }, kinds := [], alts := [], laidByText := true, laidKinds := [.data], laidTests := true, laidLooks := .later }
def RegisterConvictsUptoCardSaid : Prop := Claim7.holds Tryz.pinned (.plain (OpenSpec.upto registerConvictsSpec)) registerConvictsUptoCard

/-- THE SECOND FORM's CARD OF 'dialtonelaw18.RegisterHeads'. -/
def registerHeadsUptoCard : Claim7 := { stood := { row := registerHeadsUptoRow, standIns := [], harness := (true, "625840302792a8c0aefb5bddc5778df36dc558363332a159d2848390dab9de2e"), looks := false }, kinds := [], alts := [], laidByText := true, laidKinds := [.data], laidTests := true, laidLooks := .later }
def RegisterHeadsUptoCardSaid : Prop := Claim7.holds Tryz.pinned (.plain (OpenSpec.upto registerHeadsSpec)) registerHeadsUptoCard

/-- THE SECOND FORM's CARD OF 'dialtonelaw18.RegisterJoins'. -/
def registerJoinsUptoCard : Claim7 := { stood := { row := registerJoinsUptoRow, standIns := [], harness := (true, "625840302792a8c0aefb5bddc5778df36dc558363332a159d2848390dab9de2e"), looks := false }, kinds := [], alts := [], laidByText := true, laidKinds := [.data], laidTests := true, laidLooks := .later }
def RegisterJoinsUptoCardSaid : Prop := Claim7.holds Tryz.pinned (.plain (OpenSpec.upto registerJoinsSpec)) registerJoinsUptoCard

/-- THE SECOND FORM's CARD OF 'dialtonelaw18.RegisterMatchesReference'. -/
def registerMatchesReferenceUptoCard : Claim7 := { stood := { row := registerMatchesReferenceUptoRow, standIns := [], harness := (true, "625840302792a8c0aefb5bddc5778df36dc558363332a159d2848390dab9de2e"), looks := false }, kinds := [], alts := [], laidByText := true, laidKinds := [.data], laidTests := true, laidLooks := .later }
def RegisterMatchesReferenceUptoCardSaid : Prop := Claim7.holds Tryz.pinned (.plain (OpenSpec.upto registerMatchesReferenceSpec)) registerMatchesReferenceUptoCard

/-- THE SECOND FORM's CARD OF 'dialtonelaw18.RegisterAppends'. -/
def registerAppendsUptoCard : Claim7 := { stood := { row := registerAppendsUptoRow, standIns := [], harness := (true, "625840302792a8c0aefb5bddc5778df36dc558363332a159d2848390dab9de2e"), looks := false }, kinds := [], alts := [], laidByText := true, laidKinds := [.data], laidTests := true, laidLooks := .later }
def RegisterAppendsUptoCardSaid : Prop := Claim7.holds Tryz.pinned (.plain (OpenSpec.upto registerAppendsSpec)) registerAppendsUptoCard
end Rows
end Go.Proofs.YtinfpbkbnhcifaaGreatDoor
