/-
  DERIVED. GIVEN WITH THE SEED: THE PROGRAM's TIES (one call each: nine closed facts by the kernel) AND EACH ROW's TIE, after the 31st guide's Derived/Test/Toyas{Tie, Card}.lean. No idea stands in it: it is a product of the set-up. Laid BY PROGRAM, IN A SANDBOX (cutbox-door.mjs). By AI agents, Wed Nov 11 2026. No macro, syntax, notation, axiom, sorry.
-/
import Derived.Test.YtemhiiignamkjaaDoorRows
import Derived.LaidByTextLater
import Derived.SevenTiedAt
import Derived.LaidSub
import Derived.LaidOnce
namespace Go.Proofs.YtemhiiignamkjaaDoor
open Go
set_option maxRecDepth 100000
theorem seatTie1 : Tryd.prog.laidByTextLater [("math/bits.deBruijn32tab", Rows.laid_math_bits_deBruijn32tab), ("math/bits.deBruijn64tab", Rows.laid_math_bits_deBruijn64tab), ("internal/strconv.uint64pow10", Rows.laid_internal_strconv_uint64pow10), ("custody/lex.units", Rows.laid_custody_lex_units), ("custody/parse.flags", Rows.laid_custody_parse_flags), ("custody/parse.rules", Rows.laid_custody_parse_rules), ("custody/parse.commands", Rows.laid_custody_parse_commands)] [.data, .data, .data, .data, .widerDeep, .widerDeep, .widerDeep] true :=
  Program.laidByTextLater_by_one 48 8 65 (by kernel_rfl) (by kernel_rfl) (by kernel_rfl) (by kernel_rfl) (by kernel_rfl) (by kernel_rfl) (fun _ _ => by kernel_rfl)
theorem noOwnUnsafe : Tryd.pinned.checked.prog.headLifts.contains "ownunsafe" = false := by kernel_rfl
theorem tie : Tryd.prog.laidByTextLater [("math/bits.deBruijn32tab", Rows.laid_math_bits_deBruijn32tab), ("math/bits.deBruijn64tab", Rows.laid_math_bits_deBruijn64tab), ("internal/strconv.uint64pow10", Rows.laid_internal_strconv_uint64pow10), ("custody/lex.units", Rows.laid_custody_lex_units), ("custody/parse.flags", Rows.laid_custody_parse_flags), ("custody/parse.rules", Rows.laid_custody_parse_rules), ("custody/parse.commands", Rows.laid_custody_parse_commands)] [.data, .data, .data, .data, .widerDeep, .widerDeep, .widerDeep] true :=
  Program.laidByTextLater.sub seatTie1 ["math/bits.deBruijn32tab", "math/bits.deBruijn64tab", "internal/strconv.uint64pow10", "custody/lex.units", "custody/parse.flags", "custody/parse.rules", "custody/parse.commands"] (by kernel_rfl) (by kernel_rfl)
theorem parseMatchesSpec_row_tie : Rows.parseMatchesSpecRow.laidByTextAt .later Tryd.pinned [.data, .data, .data, .data, .widerDeep, .widerDeep, .widerDeep] true :=
  OpenClaim.laidByTextAt_later rfl rfl tie noOwnUnsafe
theorem parsePrintsAsSpecified_row_tie : Rows.parsePrintsAsSpecifiedRow.laidByTextAt .later Tryd.pinned [.data, .data, .data, .data, .widerDeep, .widerDeep, .widerDeep] true :=
  OpenClaim.laidByTextAt_later rfl rfl tie noOwnUnsafe
theorem parseRoundTrip_row_tie : Rows.parseRoundTripRow.laidByTextAt .later Tryd.pinned [.data, .data, .data, .data, .widerDeep, .widerDeep, .widerDeep] true :=
  OpenClaim.laidByTextAt_later rfl rfl tie noOwnUnsafe
theorem parseCanonical_row_tie : Rows.parseCanonicalRow.laidByTextAt .later Tryd.pinned [.data, .data, .data, .data, .widerDeep, .widerDeep, .widerDeep] true :=
  OpenClaim.laidByTextAt_later rfl rfl tie noOwnUnsafe
theorem parseIgnoresSpace_row_tie : Rows.parseIgnoresSpaceRow.laidByTextAt .later Tryd.pinned [.data, .data, .data, .data, .widerDeep, .widerDeep, .widerDeep] true :=
  OpenClaim.laidByTextAt_later rfl rfl tie noOwnUnsafe
theorem parseErrorsAreAtTokens_row_tie : Rows.parseErrorsAreAtTokensRow.laidByTextAt .later Tryd.pinned [.data, .data, .data, .data, .widerDeep, .widerDeep, .widerDeep] true :=
  OpenClaim.laidByTextAt_later rfl rfl tie noOwnUnsafe
theorem parseMatchesSpecUpto_row_tie : Rows.parseMatchesSpecUptoRow.laidByTextAt .later Tryd.pinned [.data, .data, .data, .data, .widerDeep, .widerDeep, .widerDeep] true :=
  OpenClaim.laidByTextAt_later rfl rfl tie noOwnUnsafe
theorem parsePrintsAsSpecifiedUpto_row_tie : Rows.parsePrintsAsSpecifiedUptoRow.laidByTextAt .later Tryd.pinned [.data, .data, .data, .data, .widerDeep, .widerDeep, .widerDeep] true :=
  OpenClaim.laidByTextAt_later rfl rfl tie noOwnUnsafe
theorem parseRoundTripUpto_row_tie : Rows.parseRoundTripUptoRow.laidByTextAt .later Tryd.pinned [.data, .data, .data, .data, .widerDeep, .widerDeep, .widerDeep] true :=
  OpenClaim.laidByTextAt_later rfl rfl tie noOwnUnsafe
theorem parseCanonicalUpto_row_tie : Rows.parseCanonicalUptoRow.laidByTextAt .later Tryd.pinned [.data, .data, .data, .data, .widerDeep, .widerDeep, .widerDeep] true :=
  OpenClaim.laidByTextAt_later rfl rfl tie noOwnUnsafe
theorem parseIgnoresSpaceUpto_row_tie : Rows.parseIgnoresSpaceUptoRow.laidByTextAt .later Tryd.pinned [.data, .data, .data, .data, .widerDeep, .widerDeep, .widerDeep] true :=
  OpenClaim.laidByTextAt_later rfl rfl tie noOwnUnsafe
theorem parseErrorsAreAtTokensUpto_row_tie : Rows.parseErrorsAreAtTokensUptoRow.laidByTextAt .later Tryd.pinned [.data, .data, .data, .data, .widerDeep, .widerDeep, .widerDeep] true :=
  OpenClaim.laidByTextAt_later rfl rfl tie noOwnUnsafe
end Go.Proofs.YtemhiiignamkjaaDoor
