/-
  DERIVED. GIVEN WITH THE SEED: THE CARDS: each row of YtbhagfdkipgggaaDoorRows.lean that lists a variable, with what it lists TIED to the program's text (the seventh form; the later family's looks); each row that meets fmt, with fmt's text TOLD by the authors' own Lean function (tested against real Go, not proved from fmt's source: count such statements apart). THE CARD IS WHAT COUNTS. Prove the row's statement (the work); the ties are given (YtbhagfdkipgggaaDoorTie.lean); close each card by the builder's one call (the guide's Derived/Test/ToyasCard.lean, 'card_holds'). Laid BY PROGRAM, IN A SANDBOX (cutbox-door.mjs). By AI agents, Wed Nov 11 2026. No macro, syntax, notation, axiom, sorry.
-/
import Derived.Test.YtbhagfdkipgggaaDoorRows
import GoSem.ClaimSeven
namespace Go.Proofs.YtbhagfdkipgggaaDoor
namespace Rows

/-- THE TIED CARD OF 'custodylaw29.SessionHandshakeMatchesSpec'. -/
def sessionHandshakeMatchesSpecCard : Claim7 := { stood := { row := sessionHandshakeMatchesSpecRow, standIns := [], harness := (true, "a6319778add305cdc256ae3d629f16fd0a1aea854382e63b1aa6bd60a4d59e4a"), looks := false }, kinds := [], alts := [], laidByText := true, laidKinds := [.data, .data], laidTests := true, laidLooks := .later }
def SessionHandshakeMatchesSpecCardSaid : Prop := Claim7.holds Tryd.pinned (.plain (OpenSpec.ofChange sessionHandshakeMatchesSpecSpec)) sessionHandshakeMatchesSpecCard

/-- THE TIED CARD OF 'custodylaw29.SessionMessagesMatchSpec'. -/
def sessionMessagesMatchSpecCard : Claim7 := { stood := { row := sessionMessagesMatchSpecRow, standIns := [], harness := (true, "a6319778add305cdc256ae3d629f16fd0a1aea854382e63b1aa6bd60a4d59e4a"), looks := false }, kinds := [], alts := [], laidByText := true, laidKinds := [.data, .data], laidTests := true, laidLooks := .later }
def SessionMessagesMatchSpecCardSaid : Prop := Claim7.holds Tryd.pinned (.plain (OpenSpec.ofChange sessionMessagesMatchSpecSpec)) sessionMessagesMatchSpecCard

/-- THE TIED CARD OF 'custodylaw29.SessionWindowMatchesSpec'. -/
def sessionWindowMatchesSpecCard : Claim7 := { stood := { row := sessionWindowMatchesSpecRow, standIns := [], harness := (true, "a6319778add305cdc256ae3d629f16fd0a1aea854382e63b1aa6bd60a4d59e4a"), looks := false }, kinds := [], alts := [], laidByText := true, laidKinds := [.data], laidTests := true, laidLooks := .later }
def SessionWindowMatchesSpecCardSaid : Prop := Claim7.holds Tryd.pinned (.plain (OpenSpec.ofChange sessionWindowMatchesSpecSpec)) sessionWindowMatchesSpecCard

/-- THE TIED CARD OF 'custodylaw29.SessionTableMatchesSpec'. -/
def sessionTableMatchesSpecCard : Claim7 := { stood := { row := sessionTableMatchesSpecRow, standIns := [], harness := (true, "a6319778add305cdc256ae3d629f16fd0a1aea854382e63b1aa6bd60a4d59e4a"), looks := false }, kinds := [], alts := [], laidByText := true, laidKinds := [.data], laidTests := true, laidLooks := .later }
def SessionTableMatchesSpecCardSaid : Prop := Claim7.holds Tryd.pinned (.plain (OpenSpec.ofChange sessionTableMatchesSpecSpec)) sessionTableMatchesSpecCard

/-- THE TIED CARD OF 'custodylaw29.SessionDelivers'. -/
def sessionDeliversCard : Claim7 := { stood := { row := sessionDeliversRow, standIns := [], harness := (true, "a6319778add305cdc256ae3d629f16fd0a1aea854382e63b1aa6bd60a4d59e4a"), looks := false }, kinds := [], alts := [], laidByText := true, laidKinds := [.data, .data], laidTests := true, laidLooks := .later }
def SessionDeliversCardSaid : Prop := Claim7.holds Tryd.pinned (.plain (OpenSpec.ofChange sessionDeliversSpec)) sessionDeliversCard

/-- THE TIED CARD OF 'custodylaw29.SessionNeverTwice'. -/
def sessionNeverTwiceCard : Claim7 := { stood := { row := sessionNeverTwiceRow, standIns := [], harness := (true, "a6319778add305cdc256ae3d629f16fd0a1aea854382e63b1aa6bd60a4d59e4a"), looks := false }, kinds := [], alts := [], laidByText := true, laidKinds := [.data], laidTests := true, laidLooks := .later }
def SessionNeverTwiceCardSaid : Prop := Claim7.holds Tryd.pinned (.plain (OpenSpec.ofChange sessionNeverTwiceSpec)) sessionNeverTwiceCard

/-- THE TIED CARD OF 'custodylaw29.SessionOnlyAuthentic'. -/
def sessionOnlyAuthenticCard : Claim7 := { stood := { row := sessionOnlyAuthenticRow, standIns := [], harness := (true, "a6319778add305cdc256ae3d629f16fd0a1aea854382e63b1aa6bd60a4d59e4a"), looks := false }, kinds := [], alts := [], laidByText := true, laidKinds := [.data], laidTests := true, laidLooks := .later }
def SessionOnlyAuthenticCardSaid : Prop := Claim7.holds Tryd.pinned (.plain (OpenSpec.ofChange sessionOnlyAuthenticSpec)) sessionOnlyAuthenticCard

/-- THE SECOND FORM's CARD OF 'custodylaw29.SessionHandshakeMatchesSpec'. -/
def sessionHandshakeMatchesSpecUptoCard : Claim7 := { stood := { row := sessionHandshakeMatchesSpecUptoRow, standIns := [], harness := (true, "a6319778add305cdc256ae3d629f16fd0a1aea854382e63b1aa6bd60a4d59e4a"), looks := false }, kinds := [], alts := [], laidByText := true, laidKinds := [.data, .data], laidTests := true, laidLooks := .later }
def SessionHandshakeMatchesSpecUptoCardSaid : Prop := Claim7.holds Tryd.pinned (.plain (OpenSpec.upto sessionHandshakeMatchesSpecSpec)) sessionHandshakeMatchesSpecUptoCard

/-- THE SECOND FORM's CARD OF 'custodylaw29.SessionMessagesMatchSpec'. -/
def sessionMessagesMatchSpecUptoCard : Claim7 := { stood := { row := sessionMessagesMatchSpecUptoRow, standIns := [], harness := (true, "a6319778add305cdc256ae3d629f16fd0a1aea854382e63b1aa6bd60a4d59e4a"), looks := false }, kinds := [], alts := [], laidByText := true, laidKinds := [.data, .data], laidTests := true, laidLooks := .later }
def SessionMessagesMatchSpecUptoCardSaid : Prop := Claim7.holds Tryd.pinned (.plain (OpenSpec.upto sessionMessagesMatchSpecSpec)) sessionMessagesMatchSpecUptoCard

/-- THE SECOND FORM's CARD OF 'custodylaw29.SessionWindowMatchesSpec'. -/
def sessionWindowMatchesSpecUptoCard : Claim7 := { stood := { row := sessionWindowMatchesSpecUptoRow, standIns := [], harness := (true, "a6319778add305cdc256ae3d629f16fd0a1aea854382e63b1aa6bd60a4d59e4a"), looks := false }, kinds := [], alts := [], laidByText := true, laidKinds := [.data], laidTests := true, laidLooks := .later }
def SessionWindowMatchesSpecUptoCardSaid : Prop := Claim7.holds Tryd.pinned (.plain (OpenSpec.upto sessionWindowMatchesSpecSpec)) sessionWindowMatchesSpecUptoCard

/-- THE SECOND FORM's CARD OF 'custodylaw29.SessionTableMatchesSpec'. -/
def sessionTableMatchesSpecUptoCard : Claim7 := { stood := { row := sessionTableMatchesSpecUptoRow, standIns := [], harness := (true, "a6319778add305cdc256ae3d629f16fd0a1aea854382e63b1aa6bd60a4d59e4a"), looks := false }, kinds := [], alts := [], laidByText := true, laidKinds := [.data], laidTests := true, laidLooks := .later }
def SessionTableMatchesSpecUptoCardSaid : Prop := Claim7.holds Tryd.pinned (.plain (OpenSpec.upto sessionTableMatchesSpecSpec)) sessionTableMatchesSpecUptoCard

/-- THE SECOND FORM's CARD OF 'custodylaw29.SessionDelivers'. -/
def sessionDeliversUptoCard : Claim7 := { stood := { row := sessionDeliversUptoRow, standIns := [], harness := (true, "a6319778add305cdc256ae3d629f16fd0a1aea854382e63b1aa6bd60a4d59e4a"), looks := false }, kinds := [], alts := [], laidByText := true, laidKinds := [.data, .data], laidTests := true, laidLooks := .later }
def SessionDeliversUptoCardSaid : Prop := Claim7.holds Tryd.pinned (.plain (OpenSpec.upto sessionDeliversSpec)) sessionDeliversUptoCard

/-- THE SECOND FORM's CARD OF 'custodylaw29.SessionNeverTwice'. -/
def sessionNeverTwiceUptoCard : Claim7 := { stood := { row := sessionNeverTwiceUptoRow, standIns := [], harness := (true, "a6319778add305cdc256ae3d629f16fd0a1aea854382e63b1aa6bd60a4d59e4a"), looks := false }, kinds := [], alts := [], laidByText := true, laidKinds := [.data], laidTests := true, laidLooks := .later }
def SessionNeverTwiceUptoCardSaid : Prop := Claim7.holds Tryd.pinned (.plain (OpenSpec.upto sessionNeverTwiceSpec)) sessionNeverTwiceUptoCard

/-- THE SECOND FORM's CARD OF 'custodylaw29.SessionOnlyAuthentic'. -/
def sessionOnlyAuthenticUptoCard : Claim7 := { stood := { row := sessionOnlyAuthenticUptoRow, standIns := [], harness := (true, "a6319778add305cdc256ae3d629f16fd0a1aea854382e63b1aa6bd60a4d59e4a"), looks := false }, kinds := [], alts := [], laidByText := true, laidKinds := [.data], laidTests := true, laidLooks := .later }
def SessionOnlyAuthenticUptoCardSaid : Prop := Claim7.holds Tryd.pinned (.plain (OpenSpec.upto sessionOnlyAuthenticSpec)) sessionOnlyAuthenticUptoCard
end Rows
end Go.Proofs.YtbhagfdkipgggaaDoor
