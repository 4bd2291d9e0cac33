/-
  DERIVED. GIVEN WITH THE SEED: THE CARDS: each row of YtpghocekofdpbaaGreatDoorRows.lean that lists a variable, with what it lists TIED to the program's text (the seventh form; the later family's looks); each row that meets fmt, with fmt's text TOLD by the authors' own Lean function (tested against real Go, not proved from fmt's source: count such statements apart). THE CARD IS WHAT COUNTS. Prove the row's statement (the work); the ties are given (YtpghocekofdpbaaGreatDoorTie.lean); close each card by the builder's one call (the guide's Derived/Test/ToyasCard.lean, 'card_holds'). Laid BY PROGRAM, IN A SANDBOX (cutbox-door.mjs). By AI agents, Wed Nov 11 2026. No macro, syntax, notation, axiom, sorry.
-/
import Derived.Test.YtpghocekofdpbaaGreatDoorRows
import GoSem.ClaimSeven
namespace Go.Proofs.YtpghocekofdpbaaGreatDoor
namespace Rows

/-- THE TIED CARD OF 'custodylaw26.VaultRoomAndSizes'. -/
def vaultRoomAndSizesCard : Claim7 := { stood := { row := vaultRoomAndSizesRow, standIns := [], harness := (true, "af638b9934bddc7e7d1e45758cb1265001ec38fbf2b7c7bbb0f265a17b476702"), looks := false }, kinds := [], alts := [], laidByText := true, laidKinds := [.data, .data, .data, .pinned], laidTests := true, laidLooks := .later }
def VaultRoomAndSizesCardSaid : Prop := Claim7.holds Tryz.pinned (.plain (OpenSpec.ofChange vaultRoomAndSizesSpec)) vaultRoomAndSizesCard

/-- THE TIED CARD OF 'custodylaw26.VaultRefusesOldMemory'. -/
def vaultRefusesOldMemoryCard : Claim7 := { stood := { row := vaultRefusesOldMemoryRow, standIns := [], harness := (true, "af638b9934bddc7e7d1e45758cb1265001ec38fbf2b7c7bbb0f265a17b476702"), looks := false }, kinds := [], alts := [], laidByText := true, laidKinds := [.data, .data, .pinned], laidTests := true, laidLooks := .later }
def VaultRefusesOldMemoryCardSaid : Prop := Claim7.holds Tryz.pinned (.plain (OpenSpec.ofChange vaultRefusesOldMemorySpec)) vaultRefusesOldMemoryCard

/-- THE TIED CARD OF 'custodylaw26.VaultRekeysAtomically'. -/
def vaultRekeysAtomicallyCard : Claim7 := { stood := { row := vaultRekeysAtomicallyRow, standIns := [], harness := (true, "af638b9934bddc7e7d1e45758cb1265001ec38fbf2b7c7bbb0f265a17b476702"), looks := false }, kinds := [], alts := [], laidByText := true, laidKinds := [.data, .data, .data, .pinned], laidTests := true, laidLooks := .later }
def VaultRekeysAtomicallyCardSaid : Prop := Claim7.holds Tryz.pinned (.plain (OpenSpec.ofChange vaultRekeysAtomicallySpec)) vaultRekeysAtomicallyCard

/-- THE TIED CARD OF 'custodylaw26.VaultIsDeterministic'. -/
def vaultIsDeterministicCard : Claim7 := { stood := { row := vaultIsDeterministicRow, standIns := [], harness := (true, "af638b9934bddc7e7d1e45758cb1265001ec38fbf2b7c7bbb0f265a17b476702"), looks := false }, kinds := [], alts := [], laidByText := true, laidKinds := [.data, .data, .pinned], laidTests := true, laidLooks := .later }
def VaultIsDeterministicCardSaid : Prop := Claim7.holds Tryz.pinned (.plain (OpenSpec.ofChange vaultIsDeterministicSpec)) vaultIsDeterministicCard

/-- THE TIED CARD OF 'custodylaw26.VaultSurvives'. -/
def vaultSurvivesCard : Claim7 := { stood := { row := vaultSurvivesRow, standIns := [], harness := (true, "af638b9934bddc7e7d1e45758cb1265001ec38fbf2b7c7bbb0f265a17b476702"), looks := false }, kinds := [], alts := [], laidByText := true, laidKinds := [.data, .data, .data, .pinned], laidTests := true, laidLooks := .later }
def VaultSurvivesCardSaid : Prop := Claim7.holds Tryz.pinned (.plain (OpenSpec.ofChange vaultSurvivesSpec)) vaultSurvivesCard

/-- THE SECOND FORM's CARD OF 'custodylaw26.VaultRoomAndSizes'. -/
def vaultRoomAndSizesUptoCard : Claim7 := { stood := { row := vaultRoomAndSizesUptoRow, standIns := [], harness := (true, "af638b9934bddc7e7d1e45758cb1265001ec38fbf2b7c7bbb0f265a17b476702"), looks := false }, kinds := [], alts := [], laidByText := true, laidKinds := [.data, .data, .data, .pinned], laidTests := true, laidLooks := .later }
def VaultRoomAndSizesUptoCardSaid : Prop := Claim7.holds Tryz.pinned (.plain (OpenSpec.upto vaultRoomAndSizesSpec)) vaultRoomAndSizesUptoCard

/-- THE SECOND FORM's CARD OF 'custodylaw26.VaultRefusesOldMemory'. -/
def vaultRefusesOldMemoryUptoCard : Claim7 := { stood := { row := vaultRefusesOldMemoryUptoRow, standIns := [], harness := (true, "af638b9934bddc7e7d1e45758cb1265001ec38fbf2b7c7bbb0f265a17b476702"), looks := false }, kinds := [], alts := [], laidByText := true, laidKinds := [.data, .data, .pinned], laidTests := true, laidLooks := .later }
def VaultRefusesOldMemoryUptoCardSaid : Prop := Claim7.holds Tryz.pinned (.plain (OpenSpec.upto vaultRefusesOldMemorySpec)) vaultRefusesOldMemoryUptoCard

/-- THE SECOND FORM's CARD OF 'custodylaw26.VaultRekeysAtomically'. -/
def vaultRekeysAtomicallyUptoCard : Claim7 := { stood := { row := vaultRekeysAtomicallyUptoRow, standIns := [], harness := (true, "af638b9934bddc7e7d1e45758cb1265001ec38fbf2b7c7bbb0f265a17b476702"), looks := false }, kinds := [], alts := [], laidByText := true, laidKinds := [.data, .data, .data, .pinned], laidTests := true, laidLooks := .later }
def VaultRekeysAtomicallyUptoCardSaid : Prop := Claim7.holds Tryz.pinned (.plain (OpenSpec.upto vaultRekeysAtomicallySpec)) vaultRekeysAtomicallyUptoCard

/-- THE SECOND FORM's CARD OF 'custodylaw26.VaultIsDeterministic'. -/
def vaultIsDeterministicUptoCard : Claim7 := { stood := { row := vaultIsDeterministicUptoRow, standIns := [], harness := (true, "af638b9934bddc7e7d1e45758cb1265001ec38fbf2b7c7bbb0f265a17b476702"), looks := false }, kinds := [], alts := [], laidByText := true, laidKinds := [.data, .data, .pinned], laidTests := true, laidLooks := .later }
def VaultIsDeterministicUptoCardSaid : Prop := Claim7.holds Tryz.pinned (.plain (OpenSpec.upto vaultIsDeterministicSpec)) vaultIsDeterministicUptoCard

/-- THE SECOND FORM's CARD OF 'custodylaw26.VaultSurvives'. -/
def vaultSurvivesUptoCard : Claim7 := { stood := { row := vaultSurvivesUptoRow, standIns := [], harness := (true, "af638b9934bddc7e7d1e45758cb1265001ec38fbf2b7c7bbb0f265a17b476702"), looks := false }, kinds := [], alts := [], laidByText := true, laidKinds := [.data, .data, .data, .pinned], laidTests := true, laidLooks := .later }
def VaultSurvivesUptoCardSaid : Prop := Claim7.holds Tryz.pinned (.plain (OpenSpec.upto vaultSurvivesSpec)) vaultSurvivesUptoCard
end Rows
end Go.Proofs.YtpghocekofdpbaaGreatDoor
