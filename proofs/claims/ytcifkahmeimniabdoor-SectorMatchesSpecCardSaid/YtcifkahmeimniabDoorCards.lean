/-
  DERIVED. GIVEN WITH THE SEED: THE CARDS: each row of YtcifkahmeimniabDoorRows.lean that lists a variable, with what it lists TIED to the program's text (the seventh form; the later family's looks); each row that meets fmt, with fmt's text TOLD by the authors' own Lean function (tested against real Go, not proved from fmt's source: count such statements apart). THE CARD IS WHAT COUNTS. Prove the row's statement (the work); the ties are given (YtcifkahmeimniabDoorTie.lean); close each card by the builder's one call (the guide's Derived/Test/ToyasCard.lean, 'card_holds'). Laid BY PROGRAM, IN A SANDBOX (cutbox-door.mjs). By AI agents, Wed Nov 11 2026. No macro, syntax, notation, axiom, sorry.
-/
import Derived.Test.YtcifkahmeimniabDoorRows
import GoSem.ClaimSeven
namespace Go.Proofs.YtcifkahmeimniabDoor
namespace Rows

/-- THE TIED CARD OF 'custodylaw24.SectorMatchesSpec'. -/
def sectorMatchesSpecCard : Claim7 := { stood := { row := sectorMatchesSpecRow, standIns := [], harness := (true, "fcc8c09337dba3e06e7e38f7803361c9431820a28ae77e603daba4a631ae0beb"), looks := false }, kinds := [], alts := [], laidByText := true, laidKinds := [.data, .pinned], laidTests := true, laidLooks := .later }
def SectorMatchesSpecCardSaid : Prop := Claim7.holds Tryd.pinned (.plain (OpenSpec.ofChange sectorMatchesSpecSpec)) sectorMatchesSpecCard

/-- THE TIED CARD OF 'custodylaw24.SectorJoinMatchesSpec'. -/
def sectorJoinMatchesSpecCard : Claim7 := { stood := { row := sectorJoinMatchesSpecRow, standIns := [], harness := (true, "fcc8c09337dba3e06e7e38f7803361c9431820a28ae77e603daba4a631ae0beb"), looks := false }, kinds := [], alts := [], laidByText := true, laidKinds := [.data, .pinned], laidTests := true, laidLooks := .later }
def SectorJoinMatchesSpecCardSaid : Prop := Claim7.holds Tryd.pinned (.plain (OpenSpec.ofChange sectorJoinMatchesSpecSpec)) sectorJoinMatchesSpecCard

/-- THE TIED CARD OF 'custodylaw24.SectorRoundTrip'. -/
def sectorRoundTripCard : Claim7 := { stood := { row := sectorRoundTripRow, standIns := [], harness := (true, "fcc8c09337dba3e06e7e38f7803361c9431820a28ae77e603daba4a631ae0beb"), looks := false }, kinds := [], alts := [], laidByText := true, laidKinds := [.data, .pinned], laidTests := true, laidLooks := .later }
def SectorRoundTripCardSaid : Prop := Claim7.holds Tryd.pinned (.plain (OpenSpec.ofChange sectorRoundTripSpec)) sectorRoundTripCard

/-- THE TIED CARD OF 'custodylaw24.SectorInjective'. -/
def sectorInjectiveCard : Claim7 := { stood := { row := sectorInjectiveRow, standIns := [], harness := (true, "fcc8c09337dba3e06e7e38f7803361c9431820a28ae77e603daba4a631ae0beb"), looks := false }, kinds := [], alts := [], laidByText := true, laidKinds := [.data, .pinned], laidTests := true, laidLooks := .later }
def SectorInjectiveCardSaid : Prop := Claim7.holds Tryd.pinned (.plain (OpenSpec.ofChange sectorInjectiveSpec)) sectorInjectiveCard

/-- THE TIED CARD OF 'custodylaw24.SectorTorn'. -/
def sectorTornCard : Claim7 := { stood := { row := sectorTornRow, standIns := [], harness := (true, "fcc8c09337dba3e06e7e38f7803361c9431820a28ae77e603daba4a631ae0beb"), looks := false }, kinds := [], alts := [], laidByText := true, laidKinds := [.data, .pinned], laidTests := true, laidLooks := .later }
def SectorTornCardSaid : Prop := Claim7.holds Tryd.pinned (.plain (OpenSpec.ofChange sectorTornSpec)) sectorTornCard

/-- THE TIED CARD OF 'custodylaw24.SectorMixed'. -/
def sectorMixedCard : Claim7 := { stood := { row := sectorMixedRow, standIns := [], harness := (true, "fcc8c09337dba3e06e7e38f7803361c9431820a28ae77e603daba4a631ae0beb"), looks := false }, kinds := [], alts := [], laidByText := true, laidKinds := [.data, .pinned], laidTests := true, laidLooks := .later }
def SectorMixedCardSaid : Prop := Claim7.holds Tryd.pinned (.plain (OpenSpec.ofChange sectorMixedSpec)) sectorMixedCard

/-- THE SECOND FORM's CARD OF 'custodylaw24.SectorMatchesSpec'. -/
def sectorMatchesSpecUptoCard : Claim7 := { stood := { row := sectorMatchesSpecUptoRow, standIns := [], harness := (true, "fcc8c09337dba3e06e7e38f7803361c9431820a28ae77e603daba4a631ae0beb"), looks := false }, kinds := [], alts := [], laidByText := true, laidKinds := [.data, .pinned], laidTests := true, laidLooks := .later }
def SectorMatchesSpecUptoCardSaid : Prop := Claim7.holds Tryd.pinned (.plain (OpenSpec.upto sectorMatchesSpecSpec)) sectorMatchesSpecUptoCard

/-- THE SECOND FORM's CARD OF 'custodylaw24.SectorJoinMatchesSpec'. -/
def sectorJoinMatchesSpecUptoCard : Claim7 := { stood := { row := sectorJoinMatchesSpecUptoRow, standIns := [], harness := (true, "fcc8c09337dba3e06e7e38f7803361c9431820a28ae77e603daba4a631ae0beb"), looks := false }, kinds := [], alts := [], laidByText := true, laidKinds := [.data, .pinned], laidTests := true, laidLooks := .later }
def SectorJoinMatchesSpecUptoCardSaid : Prop := Claim7.holds Tryd.pinned (.plain (OpenSpec.upto sectorJoinMatchesSpecSpec)) sectorJoinMatchesSpecUptoCard

/-- THE SECOND FORM's CARD OF 'custodylaw24.SectorRoundTrip'. -/
def sectorRoundTripUptoCard : Claim7 := { stood := { row := sectorRoundTripUptoRow, standIns := [], harness := (true, "fcc8c09337dba3e06e7e38f7803361c9431820a28ae77e603daba4a631ae0beb"), looks := false }, kinds := [], alts := [], laidByText := true, laidKinds := [.data, .pinned], laidTests := true, laidLooks := .later }
def SectorRoundTripUptoCardSaid : Prop := Claim7.holds Tryd.pinned (.plain (OpenSpec.upto sectorRoundTripSpec)) sectorRoundTripUptoCard

/-- THE SECOND FORM's CARD OF 'custodylaw24.SectorInjective'. -/
def sectorInjectiveUptoCard : Claim7 := { stood := { row := sectorInjectiveUptoRow, standIns := [], harness := (true, "fcc8c09337dba3e06e7e38f7803361c9431820a28ae77e603daba4a631ae0beb"), looks := false }, kinds := [], alts := [], laidByText := true, laidKinds := [.data, .pinned], laidTests := true, laidLooks := .later }
def SectorInjectiveUptoCardSaid : Prop := Claim7.holds Tryd.pinned (.plain (OpenSpec.upto sectorInjectiveSpec)) sectorInjectiveUptoCard

/-- THE SECOND FORM's CARD OF 'custodylaw24.SectorTorn'. -/
def sectorTornUptoCard : Claim7 := { stood := { row := sectorTornUptoRow, standIns := [], harness := (true, "fcc8c09337dba3e06e7e38f7803361c9431820a28ae77e603daba4a631ae0beb"), looks := false }, kinds := [], alts := [], laidByText := true, laidKinds := [.data, .pinned], laidTests := true, laidLooks := .later }
def SectorTornUptoCardSaid : Prop := Claim7.holds Tryd.pinned (.plain (OpenSpec.upto sectorTornSpec)) sectorTornUptoCard

/-- THE SECOND FORM's CARD OF 'custodylaw24.SectorMixed'. -/
def sectorMixedUptoCard : Claim7 := { stood := { row := sectorMixedUptoRow, standIns := [], harness := (true, "fcc8c09337dba3e06e7e38f7803361c9431820a28ae77e603daba4a631ae0beb"), looks := false }, kinds := [], alts := [], laidByText := true, laidKinds := [.data, .pinned], laidTests := true, laidLooks := .later }
def SectorMixedUptoCardSaid : Prop := Claim7.holds Tryd.pinned (.plain (OpenSpec.upto sectorMixedSpec)) sectorMixedUptoCard
end Rows
end Go.Proofs.YtcifkahmeimniabDoor
