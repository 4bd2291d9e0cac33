/-
  DERIVED. GIVEN WITH THE SEED: THE CARDS: each row of YtemhiiignamkjaaDoorRows.lean that lists a variable, with what it lists TIED to the program's text (the seventh form; the later family's looks); each row that meets fmt, with fmt's text TOLD by the authors' own Lean function (tested against real Go, not proved from fmt's source: count such statements apart). THE CARD IS WHAT COUNTS. Prove the row's statement (the work); the ties are given (YtemhiiignamkjaaDoorTie.lean); close each card by the builder's one call (the guide's Derived/Test/ToyasCard.lean, 'card_holds'). Laid BY PROGRAM, IN A SANDBOX (cutbox-door.mjs). By AI agents, Wed Nov 11 2026. No macro, syntax, notation, axiom, sorry.
-/
import Derived.Test.YtemhiiignamkjaaDoorRows
import GoSem.ClaimSeven
namespace Go.Proofs.YtemhiiignamkjaaDoor
namespace Rows

/-- THE TIED CARD OF 'custodylaw12.ParseMatchesSpec'. -/
def parseMatchesSpecCard : Claim7 := { stood := { row := parseMatchesSpecRow, standIns := [], harness := (true, "bed374089f9d9ea1d70856d5b5c55379d7179a61ec8355f592a864ce660fe484"), looks := true }, kinds := [], alts := [], laidByText := true, laidKinds := [.data, .data, .data, .data, .widerDeep, .widerDeep, .widerDeep], laidTests := true, laidLooks := .later }
def ParseMatchesSpecCardSaid : Prop := Claim7.holds Tryd.pinned (.plain (OpenSpec.ofChange parseMatchesSpecSpec)) parseMatchesSpecCard

/-- THE TIED CARD OF 'custodylaw12.ParsePrintsAsSpecified'. -/
def parsePrintsAsSpecifiedCard : Claim7 := { stood := { row := parsePrintsAsSpecifiedRow, standIns := [], harness := (true, "bed374089f9d9ea1d70856d5b5c55379d7179a61ec8355f592a864ce660fe484"), looks := true }, kinds := [], alts := [], laidByText := true, laidKinds := [.data, .data, .data, .data, .widerDeep, .widerDeep, .widerDeep], laidTests := true, laidLooks := .later }
def ParsePrintsAsSpecifiedCardSaid : Prop := Claim7.holds Tryd.pinned (.plain (OpenSpec.ofChange parsePrintsAsSpecifiedSpec)) parsePrintsAsSpecifiedCard

/-- THE TIED CARD OF 'custodylaw12.ParseRoundTrip'. -/
def parseRoundTripCard : Claim7 := { stood := { row := parseRoundTripRow, standIns := [], harness := (true, "bed374089f9d9ea1d70856d5b5c55379d7179a61ec8355f592a864ce660fe484"), looks := true }, kinds := [], alts := [], laidByText := true, laidKinds := [.data, .data, .data, .data, .widerDeep, .widerDeep, .widerDeep], laidTests := true, laidLooks := .later }
def ParseRoundTripCardSaid : Prop := Claim7.holds Tryd.pinned (.plain (OpenSpec.ofChange parseRoundTripSpec)) parseRoundTripCard

/-- THE TIED CARD OF 'custodylaw12.ParseCanonical'. -/
def parseCanonicalCard : Claim7 := { stood := { row := parseCanonicalRow, standIns := [], harness := (true, "bed374089f9d9ea1d70856d5b5c55379d7179a61ec8355f592a864ce660fe484"), looks := true }, kinds := [], alts := [], laidByText := true, laidKinds := [.data, .data, .data, .data, .widerDeep, .widerDeep, .widerDeep], laidTests := true, laidLooks := .later }
def ParseCanonicalCardSaid : Prop := Claim7.holds Tryd.pinned (.plain (OpenSpec.ofChange parseCanonicalSpec)) parseCanonicalCard

/-- THE TIED CARD OF 'custodylaw12.ParseIgnoresSpace'. -/
def parseIgnoresSpaceCard : Claim7 := { stood := { row := parseIgnoresSpaceRow, standIns := [], harness := (true, "bed374089f9d9ea1d70856d5b5c55379d7179a61ec8355f592a864ce660fe484"), looks := true }, kinds := [], alts := [], laidByText := true, laidKinds := [.data, .data, .data, .data, .widerDeep, .widerDeep, .widerDeep], laidTests := true, laidLooks := .later }
def ParseIgnoresSpaceCardSaid : Prop := Claim7.holds Tryd.pinned (.plain (OpenSpec.ofChange parseIgnoresSpaceSpec)) parseIgnoresSpaceCard

/-- THE TIED CARD OF 'custodylaw12.ParseErrorsAreAtTokens'. -/
def parseErrorsAreAtTokensCard : Claim7 := { stood := { row := parseErrorsAreAtTokensRow, standIns := [], harness := (true, "bed374089f9d9ea1d70856d5b5c55379d7179a61ec8355f592a864ce660fe484"), looks := true }, kinds := [], alts := [], laidByText := true, laidKinds := [.data, .data, .data, .data, .widerDeep, .widerDeep, .widerDeep], laidTests := true, laidLooks := .later }
def ParseErrorsAreAtTokensCardSaid : Prop := Claim7.holds Tryd.pinned (.plain (OpenSpec.ofChange parseErrorsAreAtTokensSpec)) parseErrorsAreAtTokensCard

/-- THE SECOND FORM's CARD OF 'custodylaw12.ParseMatchesSpec'. -/
def parseMatchesSpecUptoCard : Claim7 := { stood := { row := parseMatchesSpecUptoRow, standIns := [], harness := (true, "bed374089f9d9ea1d70856d5b5c55379d7179a61ec8355f592a864ce660fe484"), looks := true }, kinds := [], alts := [], laidByText := true, laidKinds := [.data, .data, .data, .data, .widerDeep, .widerDeep, .widerDeep], laidTests := true, laidLooks := .later }
def ParseMatchesSpecUptoCardSaid : Prop := Claim7.holds Tryd.pinned (.plain (OpenSpec.upto parseMatchesSpecSpec)) parseMatchesSpecUptoCard

/-- THE SECOND FORM's CARD OF 'custodylaw12.ParsePrintsAsSpecified'. -/
def parsePrintsAsSpecifiedUptoCard : Claim7 := { stood := { row := parsePrintsAsSpecifiedUptoRow, standIns := [], harness := (true, "bed374089f9d9ea1d70856d5b5c55379d7179a61ec8355f592a864ce660fe484"), looks := true }, kinds := [], alts := [], laidByText := true, laidKinds := [.data, .data, .data, .data, .widerDeep, .widerDeep, .widerDeep], laidTests := true, laidLooks := .later }
def ParsePrintsAsSpecifiedUptoCardSaid : Prop := Claim7.holds Tryd.pinned (.plain (OpenSpec.upto parsePrintsAsSpecifiedSpec)) parsePrintsAsSpecifiedUptoCard

/-- THE SECOND FORM's CARD OF 'custodylaw12.ParseRoundTrip'. -/
def parseRoundTripUptoCard : Claim7 := { stood := { row := parseRoundTripUptoRow, standIns := [], harness := (true, "bed374089f9d9ea1d70856d5b5c55379d7179a61ec8355f592a864ce660fe484"), looks := true }, kinds := [], alts := [], laidByText := true, laidKinds := [.data, .data, .data, .data, .widerDeep, .widerDeep, .widerDeep], laidTests := true, laidLooks := .later }
def ParseRoundTripUptoCardSaid : Prop := Claim7.holds Tryd.pinned (.plain (OpenSpec.upto parseRoundTripSpec)) parseRoundTripUptoCard

/-- THE SECOND FORM's CARD OF 'custodylaw12.ParseCanonical'. -/
def parseCanonicalUptoCard : Claim7 := { stood := { row := parseCanonicalUptoRow, standIns := [], harness := (true, "bed374089f9d9ea1d70856d5b5c55379d7179a61ec8355f592a864ce660fe484"), looks := true }, kinds := [], alts := [], laidByText := true, laidKinds := [.data, .data, .data, .data, .widerDeep, .widerDeep, .widerDeep], laidTests := true, laidLooks := .later }
def ParseCanonicalUptoCardSaid : Prop := Claim7.holds Tryd.pinned (.plain (OpenSpec.upto parseCanonicalSpec)) parseCanonicalUptoCard

/-- THE SECOND FORM's CARD OF 'custodylaw12.ParseIgnoresSpace'. -/
def parseIgnoresSpaceUptoCard : Claim7 := { stood := { row := parseIgnoresSpaceUptoRow, standIns := [], harness := (true, "bed374089f9d9ea1d70856d5b5c55379d7179a61ec8355f592a864ce660fe484"), looks := true }, kinds := [], alts := [], laidByText := true, laidKinds := [.data, .data, .data, .data, .widerDeep, .widerDeep, .widerDeep], laidTests := true, laidLooks := .later }
def ParseIgnoresSpaceUptoCardSaid : Prop := Claim7.holds Tryd.pinned (.plain (OpenSpec.upto parseIgnoresSpaceSpec)) parseIgnoresSpaceUptoCard

/-- THE SECOND FORM's CARD OF 'custodylaw12.ParseErrorsAreAtTokens'. -/
def parseErrorsAreAtTokensUptoCard : Claim7 := { stood := { row := parseErrorsAreAtTokensUptoRow, standIns := [], harness := (true, "bed374089f9d9ea1d70856d5b5c55379d7179a61ec8355f592a864ce660fe484"), looks := true }, kinds := [], alts := [], laidByText := true, laidKinds := [.data, .data, .data, .data, .widerDeep, .widerDeep, .widerDeep], laidTests := true, laidLooks := .later }
def ParseErrorsAreAtTokensUptoCardSaid : Prop := Claim7.holds Tryd.pinned (.plain (OpenSpec.upto parseErrorsAreAtTokensSpec)) parseErrorsAreAtTokensUptoCard
end Rows
end Go.Proofs.YtemhiiignamkjaaDoor
