/-
  DERIVED. GIVEN WITH THE SEED: THE CARDS: each row of YtgieiehpnjhkoabDoorRows.lean that lists a variable, with what it lists TIED to the program's text (the seventh form; the later family's looks); each row that meets fmt, with fmt's text TOLD by the authors' own Lean function (tested against real Go, not proved from fmt's source: count such statements apart). THE CARD IS WHAT COUNTS. Prove the row's statement (the work); the ties are given (YtgieiehpnjhkoabDoorTie.lean); close each card by the builder's one call (the guide's Derived/Test/ToyasCard.lean, 'card_holds'). Laid BY PROGRAM, IN A SANDBOX (cutbox-door.mjs). By AI agents, Wed Nov 11 2026. No macro, syntax, notation, axiom, sorry.
-/
import Derived.Test.YtgieiehpnjhkoabDoorRows
import GoSem.ClaimSeven
namespace Go.Proofs.YtgieiehpnjhkoabDoor
namespace Rows

/-- THE TIED CARD OF 'custodylaw11.LexTokensMatchSpec'. -/
def lexTokensMatchSpecCard : Claim7 := { stood := { row := lexTokensMatchSpecRow, standIns := [], harness := (true, "73f39069f1cf9d130ef5fde241748eb6322c8c8b3855e7348583b42bb8605646"), looks := false }, kinds := [], alts := [], laidByText := true, laidKinds := [.data], laidTests := true, laidLooks := .later }
def LexTokensMatchSpecCardSaid : Prop := Claim7.holds Tryd.pinned (.plain (OpenSpec.ofChange lexTokensMatchSpecSpec)) lexTokensMatchSpecCard

/-- THE TIED CARD OF 'custodylaw11.LexSpotMatchesSpec'. -/
def lexSpotMatchesSpecCard : Claim7 := { stood := { row := lexSpotMatchesSpecRow, standIns := [], harness := (true, "73f39069f1cf9d130ef5fde241748eb6322c8c8b3855e7348583b42bb8605646"), looks := false }, kinds := [], alts := [], laidByText := true, laidKinds := [.data], laidTests := true, laidLooks := .later }
def LexSpotMatchesSpecCardSaid : Prop := Claim7.holds Tryd.pinned (.plain (OpenSpec.ofChange lexSpotMatchesSpecSpec)) lexSpotMatchesSpecCard

/-- THE TIED CARD OF 'custodylaw11.LexJoinMatchesSpec'. -/
def lexJoinMatchesSpecCard : Claim7 := { stood := { row := lexJoinMatchesSpecRow, standIns := [], harness := (true, "73f39069f1cf9d130ef5fde241748eb6322c8c8b3855e7348583b42bb8605646"), looks := false }, kinds := [], alts := [], laidByText := true, laidKinds := [.data], laidTests := true, laidLooks := .later }
def LexJoinMatchesSpecCardSaid : Prop := Claim7.holds Tryd.pinned (.plain (OpenSpec.ofChange lexJoinMatchesSpecSpec)) lexJoinMatchesSpecCard

/-- THE TIED CARD OF 'custodylaw11.LexTokensLieInText'. -/
def lexTokensLieInTextCard : Claim7 := { stood := { row := lexTokensLieInTextRow, standIns := [], harness := (true, "73f39069f1cf9d130ef5fde241748eb6322c8c8b3855e7348583b42bb8605646"), looks := false }, kinds := [], alts := [], laidByText := true, laidKinds := [.data], laidTests := true, laidLooks := .later }
def LexTokensLieInTextCardSaid : Prop := Claim7.holds Tryd.pinned (.plain (OpenSpec.ofChange lexTokensLieInTextSpec)) lexTokensLieInTextCard

/-- THE TIED CARD OF 'custodylaw11.LexJoinKeepsTokens'. -/
def lexJoinKeepsTokensCard : Claim7 := { stood := { row := lexJoinKeepsTokensRow, standIns := [], harness := (true, "73f39069f1cf9d130ef5fde241748eb6322c8c8b3855e7348583b42bb8605646"), looks := false }, kinds := [], alts := [], laidByText := true, laidKinds := [.data], laidTests := true, laidLooks := .later }
def LexJoinKeepsTokensCardSaid : Prop := Claim7.holds Tryd.pinned (.plain (OpenSpec.ofChange lexJoinKeepsTokensSpec)) lexJoinKeepsTokensCard

/-- THE TIED CARD OF 'custodylaw11.LexGapsDoNotMatter'. -/
def lexGapsDoNotMatterCard : Claim7 := { stood := { row := lexGapsDoNotMatterRow, standIns := [], harness := (true, "73f39069f1cf9d130ef5fde241748eb6322c8c8b3855e7348583b42bb8605646"), looks := false }, kinds := [], alts := [], laidByText := true, laidKinds := [.data], laidTests := true, laidLooks := .later }
def LexGapsDoNotMatterCardSaid : Prop := Claim7.holds Tryd.pinned (.plain (OpenSpec.ofChange lexGapsDoNotMatterSpec)) lexGapsDoNotMatterCard

/-- THE SECOND FORM's CARD OF 'custodylaw11.LexTokensMatchSpec'. -/
def lexTokensMatchSpecUptoCard : Claim7 := { stood := { row := lexTokensMatchSpecUptoRow, standIns := [], harness := (true, "73f39069f1cf9d130ef5fde241748eb6322c8c8b3855e7348583b42bb8605646"), looks := false }, kinds := [], alts := [], laidByText := true, laidKinds := [.data], laidTests := true, laidLooks := .later }
def LexTokensMatchSpecUptoCardSaid : Prop := Claim7.holds Tryd.pinned (.plain (OpenSpec.upto lexTokensMatchSpecSpec)) lexTokensMatchSpecUptoCard

/-- THE SECOND FORM's CARD OF 'custodylaw11.LexSpotMatchesSpec'. -/
def lexSpotMatchesSpecUptoCard : Claim7 := { stood := { row := lexSpotMatchesSpecUptoRow, standIns := [], harness := (true, "73f39069f1cf9d130ef5fde241748eb6322c8c8b3855e7348583b42bb8605646"), looks := false }, kinds := [], alts := [], laidByText := true, laidKinds := [.data], laidTests := true, laidLooks := .later }
def LexSpotMatchesSpecUptoCardSaid : Prop := Claim7.holds Tryd.pinned (.plain (OpenSpec.upto lexSpotMatchesSpecSpec)) lexSpotMatchesSpecUptoCard

/-- THE SECOND FORM's CARD OF 'custodylaw11.LexJoinMatchesSpec'. -/
def lexJoinMatchesSpecUptoCard : Claim7 := { stood := { row := lexJoinMatchesSpecUptoRow, standIns := [], harness := (true, "73f39069f1cf9d130ef5fde241748eb6322c8c8b3855e7348583b42bb8605646"), looks := false }, kinds := [], alts := [], laidByText := true, laidKinds := [.data], laidTests := true, laidLooks := .later }
def LexJoinMatchesSpecUptoCardSaid : Prop := Claim7.holds Tryd.pinned (.plain (OpenSpec.upto lexJoinMatchesSpecSpec)) lexJoinMatchesSpecUptoCard

/-- THE SECOND FORM's CARD OF 'custodylaw11.LexTokensLieInText'. -/
def lexTokensLieInTextUptoCard : Claim7 := { stood := { row := lexTokensLieInTextUptoRow, standIns := [], harness := (true, "73f39069f1cf9d130ef5fde241748eb6322c8c8b3855e7348583b42bb8605646"), looks := false }, kinds := [], alts := [], laidByText := true, laidKinds := [.data], laidTests := true, laidLooks := .later }
def LexTokensLieInTextUptoCardSaid : Prop := Claim7.holds Tryd.pinned (.plain (OpenSpec.upto lexTokensLieInTextSpec)) lexTokensLieInTextUptoCard

/-- THE SECOND FORM's CARD OF 'custodylaw11.LexJoinKeepsTokens'. -/
def lexJoinKeepsTokensUptoCard : Claim7 := { stood := { row := lexJoinKeepsTokensUptoRow, standIns := [], harness := (true, "73f39069f1cf9d130ef5fde241748eb6322c8c8b3855e7348583b42bb8605646"), looks := false }, kinds := [], alts := [], laidByText := true, laidKinds := [.data], laidTests := true, laidLooks := .later }
def LexJoinKeepsTokensUptoCardSaid : Prop := Claim7.holds Tryd.pinned (.plain (OpenSpec.upto lexJoinKeepsTokensSpec)) lexJoinKeepsTokensUptoCard

/-- THE SECOND FORM's CARD OF 'custodylaw11.LexGapsDoNotMatter'. -/
def lexGapsDoNotMatterUptoCard : Claim7 := { stood := { row := lexGapsDoNotMatterUptoRow, standIns := [], harness := (true, "73f39069f1cf9d130ef5fde241748eb6322c8c8b3855e7348583b42bb8605646"), looks := false }, kinds := [], alts := [], laidByText := true, laidKinds := [.data], laidTests := true, laidLooks := .later }
def LexGapsDoNotMatterUptoCardSaid : Prop := Claim7.holds Tryd.pinned (.plain (OpenSpec.upto lexGapsDoNotMatterSpec)) lexGapsDoNotMatterUptoCard
end Rows
end Go.Proofs.YtgieiehpnjhkoabDoor
