/-
  NARROWER THAN 'FOR EVERY INPUT', by the rows' own cells (each row's printed sentence says how): ScriptMatchesSpec: laid · ScriptParsesAsSpecified: laid · ScriptRoundTrip: laid · ScriptJoins: laid · ScriptCanonical: laid · ScriptLines: laid.
  DERIVED. THE GIVEN ROWS OF THIS SEAT. 6 by the template 'for every input the law returns true; each argument reads behind the call as it read before'; 0 by the template 'total and deterministic' (their statements: YtldkfhimpkiigaaGreatDoorTotals.lean).
  GIVEN WITH THE SEED: the statements are not yours to turn. If you find one false, say at which input.
  Laid BY PROGRAM, IN A SANDBOX (cutbox-rows.mjs): the forced cells as the released guide's own fill.sh prints them over the translation 1216698a4436c2b4… (all of the seat's roots in one cut). By AI agents, Wed Nov 11 2026. No macro, syntax, notation, axiom, sorry.
-/
import Derived.Test.YtldkfhimpkiigaaGreatDoorChecked
import GoSem.PinnedTables
import GoSem.Claim
import GoSem.ClaimJoined
import GoSem.ClaimMapViews
import Derived.JoinedTies
import Derived.KernelRfl
namespace Go.Proofs.YtldkfhimpkiigaaGreatDoor
/- THE CELL 'sum', in the pinned program and in every row, IS THE sha256 OF THE DUMP (.gsa) THAT YtldkfhimpkiigaaGreatDoorProg.lean LOADS. Nothing in Lean hashes anything: it is a label: what it is worth is what the hold of that sum in a sandbox is worth. -/
noncomputable def Tryz.pinned : Pinned := { name := "ytldkfhimpkiigaagreatdoor", sum := "1216698a4436c2b4777b29df992b10649c8a37988e361ebea1fe19e7aca58e42", checked := Tryz.checked }
namespace Rows
def none {H : Type} : Left H := { results := [], args := [] }

/- WHAT THE LISTED PACKAGE-LEVEL VARIABLES READ AS WHEN THE CALL BEGINS. Each datum BY PROGRAM (the guide's laid-datum.mjs) off the statement by which the dump's own 'gosem.cut.vars' lays the variable. In a bare row this is a premise. The card (YtldkfhimpkiigaaGreatDoorCards.lean) ties it to the program's text. -/
def laid_math_bits_deBruijn32tab {H : Type} : DataW H := .agg [.lit (.int .u8 0), .lit (.int .u8 1), .lit (.int .u8 28), .lit (.int .u8 2), .lit (.int .u8 29), .lit (.int .u8 14), .lit (.int .u8 24), .lit (.int .u8 3), .lit (.int .u8 30), .lit (.int .u8 22), .lit (.int .u8 20), .lit (.int .u8 15), .lit (.int .u8 25), .lit (.int .u8 17), .lit (.int .u8 4), .lit (.int .u8 8), .lit (.int .u8 31), .lit (.int .u8 27), .lit (.int .u8 13), .lit (.int .u8 23), .lit (.int .u8 21), .lit (.int .u8 19), .lit (.int .u8 16), .lit (.int .u8 7), .lit (.int .u8 26), .lit (.int .u8 12), .lit (.int .u8 18), .lit (.int .u8 6), .lit (.int .u8 11), .lit (.int .u8 5), .lit (.int .u8 10), .lit (.int .u8 9)]
def laid_math_bits_deBruijn64tab {H : Type} : DataW H := .agg [.lit (.int .u8 0), .lit (.int .u8 1), .lit (.int .u8 56), .lit (.int .u8 2), .lit (.int .u8 57), .lit (.int .u8 49), .lit (.int .u8 28), .lit (.int .u8 3), .lit (.int .u8 61), .lit (.int .u8 58), .lit (.int .u8 42), .lit (.int .u8 50), .lit (.int .u8 38), .lit (.int .u8 29), .lit (.int .u8 17), .lit (.int .u8 4), .lit (.int .u8 62), .lit (.int .u8 47), .lit (.int .u8 59), .lit (.int .u8 36), .lit (.int .u8 45), .lit (.int .u8 43), .lit (.int .u8 51), .lit (.int .u8 22), .lit (.int .u8 53), .lit (.int .u8 39), .lit (.int .u8 33), .lit (.int .u8 30), .lit (.int .u8 24), .lit (.int .u8 18), .lit (.int .u8 12), .lit (.int .u8 5), .lit (.int .u8 63), .lit (.int .u8 55), .lit (.int .u8 48), .lit (.int .u8 27), .lit (.int .u8 60), .lit (.int .u8 41), .lit (.int .u8 37), .lit (.int .u8 16), .lit (.int .u8 46), .lit (.int .u8 35), .lit (.int .u8 44), .lit (.int .u8 21), .lit (.int .u8 52), .lit (.int .u8 32), .lit (.int .u8 23), .lit (.int .u8 11), .lit (.int .u8 54), .lit (.int .u8 26), .lit (.int .u8 40), .lit (.int .u8 15), .lit (.int .u8 34), .lit (.int .u8 20), .lit (.int .u8 31), .lit (.int .u8 10), .lit (.int .u8 25), .lit (.int .u8 14), .lit (.int .u8 19), .lit (.int .u8 9), .lit (.int .u8 13), .lit (.int .u8 8), .lit (.int .u8 7), .lit (.int .u8 6)]
def laid_internal_strconv_uint64pow10 {H : Type} : DataW H := .agg [.lit (.int .u64 1), .lit (.int .u64 10), .lit (.int .u64 100), .lit (.int .u64 1000), .lit (.int .u64 10000), .lit (.int .u64 100000), .lit (.int .u64 1000000), .lit (.int .u64 10000000), .lit (.int .u64 100000000), .lit (.int .u64 1000000000), .lit (.int .u64 10000000000), .lit (.int .u64 100000000000), .lit (.int .u64 1000000000000), .lit (.int .u64 10000000000000), .lit (.int .u64 100000000000000), .lit (.int .u64 1000000000000000), .lit (.int .u64 10000000000000000), .lit (.int .u64 100000000000000000), .lit (.int .u64 1000000000000000000), .lit (.int .u64 10000000000000000000)]
def laid_unicode_utf8_acceptRanges {H : Type} : DataW H := .agg [.agg [.lit (.int .u8 128), .lit (.int .u8 191)], .agg [.lit (.int .u8 160), .lit (.int .u8 191)], .agg [.lit (.int .u8 128), .lit (.int .u8 159)], .agg [.lit (.int .u8 144), .lit (.int .u8 191)], .agg [.lit (.int .u8 128), .lit (.int .u8 143)], .agg [.lit (.int .u8 0), .lit (.int .u8 0)], .agg [.lit (.int .u8 0), .lit (.int .u8 0)], .agg [.lit (.int .u8 0), .lit (.int .u8 0)], .agg [.lit (.int .u8 0), .lit (.int .u8 0)], .agg [.lit (.int .u8 0), .lit (.int .u8 0)], .agg [.lit (.int .u8 0), .lit (.int .u8 0)], .agg [.lit (.int .u8 0), .lit (.int .u8 0)], .agg [.lit (.int .u8 0), .lit (.int .u8 0)], .agg [.lit (.int .u8 0), .lit (.int .u8 0)], .agg [.lit (.int .u8 0), .lit (.int .u8 0)], .agg [.lit (.int .u8 0), .lit (.int .u8 0)]]
def laid_strconv_ErrRange {H : Type} : DataW H := .iface "*errors.errorString" (.ptr (.agg [.lit (.string [118, 97, 108, 117, 101, 32, 111, 117, 116, 32, 111, 102, 32, 114, 97, 110, 103, 101])]))
def laid_strconv_ErrSyntax {H : Type} : DataW H := .iface "*errors.errorString" (.ptr (.agg [.lit (.string [105, 110, 118, 97, 108, 105, 100, 32, 115, 121, 110, 116, 97, 120])]))
def laid_custody_script_rows {H : Type} : DataW H := .agg [.agg [.lit (.string []), .lit (.int .i64 0), .lit (.int .i64 0), .lit (.bool false)], .agg [.lit (.string [99, 117, 115, 116, 111, 100, 105, 97, 110, 115]), .lit (.int .i64 2), .lit (.int .i64 2), .lit (.bool false)], .agg [.lit (.string [109, 111, 100, 117, 108, 101]), .lit (.int .i64 3), .lit (.int .i64 3), .lit (.bool false)], .agg [.lit (.string [98, 111, 111, 116]), .lit (.int .i64 1), .lit (.int .i64 1), .lit (.bool false)], .agg [.lit (.string [99, 111, 109, 109, 97, 110, 100]), .lit (.int .i64 8), .lit (.int .i64 18), .lit (.bool true)], .agg [.lit (.string [112, 114, 111, 112, 111, 115, 101]), .lit (.int .i64 7), .lit (.int .i64 17), .lit (.bool true)], .agg [.lit (.string [97, 112, 112, 114, 111, 118, 101]), .lit (.int .i64 3), .lit (.int .i64 3), .lit (.bool false)], .agg [.lit (.string [119, 105, 116, 104, 100, 114, 97, 119]), .lit (.int .i64 3), .lit (.int .i64 3), .lit (.bool false)], .agg [.lit (.string [98, 101, 116, 114, 97, 121]), .lit (.int .i64 1), .lit (.int .i64 1), .lit (.bool false)], .agg [.lit (.string [101, 110, 116, 101, 114]), .lit (.int .i64 3), .lit (.int .i64 3), .lit (.bool false)], .agg [.lit (.string [116, 105, 99, 107]), .lit (.int .i64 1), .lit (.int .i64 1), .lit (.bool false)], .agg [.lit (.string [116, 114, 105, 112]), .lit (.int .i64 2), .lit (.int .i64 2), .lit (.bool false)], .agg [.lit (.string [109, 111, 117, 110, 116]), .lit (.int .i64 1), .lit (.int .i64 17), .lit (.bool false)], .agg [.lit (.string [115, 101, 110, 115, 101]), .lit (.int .i64 3), .lit (.int .i64 3), .lit (.bool false)], .agg [.lit (.string [98, 97, 116, 116, 101, 114, 121]), .lit (.int .i64 1), .lit (.int .i64 1), .lit (.bool false)], .agg [.lit (.string [105, 109, 97, 103, 101]), .lit (.int .i64 1), .lit (.int .i64 1), .lit (.bool false)], .agg [.lit (.string [112, 117, 116]), .lit (.int .i64 2), .lit (.int .i64 2), .lit (.bool false)], .agg [.lit (.string [115, 116, 97, 108, 101]), .lit (.int .i64 2), .lit (.int .i64 2), .lit (.bool false)], .agg [.lit (.string [119, 101, 97, 114]), .lit (.int .i64 2), .lit (.int .i64 2), .lit (.bool false)], .agg [.lit (.string [114, 101, 115, 101, 116]), .lit (.int .i64 2), .lit (.int .i64 2), .lit (.bool false)], .agg [.lit (.string [115, 101, 115, 115, 105, 111, 110]), .lit (.int .i64 2), .lit (.int .i64 2), .lit (.bool false)], .agg [.lit (.string [115, 101, 110, 100]), .lit (.int .i64 8), .lit (.int .i64 18), .lit (.bool true)], .agg [.lit (.string [114, 101, 112, 108, 97, 121]), .lit (.int .i64 2), .lit (.int .i64 2), .lit (.bool false)], .agg [.lit (.string [97, 117, 100, 105, 116]), .lit (.int .i64 1), .lit (.int .i64 1), .lit (.bool false)]]
/-- One of Go's own tables, pinned by name: the form's constant. -/
def laid_unicode_utf8_first : DataW Unit := Go.Pinned.utf8First

/-- 'custodylaw46.ScriptMatchesSpec': WHATEVER THE INPUT: true; the input reads as it did. -/
def scriptMatchesSpecSpec : ChangeSpec := { name := "scriptMatchesSpec", fn := fun _ => fun
  | [d1, d2, d3, d4, d5] => { results := [.lit (.bool true)], args := [d1, d2, d3, d4, d5] }
  | _ => none }
def scriptMatchesSpecRow : OpenClaim := { program := "ytldkfhimpkiigaagreatdoor", sum := "1216698a4436c2b4777b29df992b10649c8a37988e361ebea1fe19e7aca58e42", func := "custody/custodylaw46.ScriptMatchesSpec", spec := "scriptMatchesSpec", inPlace := ["internal/bytealg.CountString", "internal/bytealg.IndexByteString", "internal/bytealg.IndexString", "internal/abi.NoEscape", "internal/bytealg.MakeNoZero"], unfollowed := true, recurses := true, named := ["custody/script.rows", "strconv.ErrSyntax", "strconv.ErrRange", "internal/strconv.uint64pow10", "math/bits.deBruijn32tab", "math/bits.deBruijn64tab", "internal/bytealg.MaxLen", "unicode/utf8.first", "unicode/utf8.acceptRanges"], apart := false, laid := [("math/bits.deBruijn32tab", laid_math_bits_deBruijn32tab), ("math/bits.deBruijn64tab", laid_math_bits_deBruijn64tab), ("internal/strconv.uint64pow10", laid_internal_strconv_uint64pow10), ("unicode/utf8.acceptRanges", laid_unicode_utf8_acceptRanges), ("strconv.ErrRange", laid_strconv_ErrRange), ("strconv.ErrSyntax", laid_strconv_ErrSyntax), ("custody/script.rows", laid_custody_script_rows), ("unicode/utf8.first", laid_unicode_utf8_first)] }
def ScriptMatchesSpecSaid : Prop := scriptMatchesSpecRow.holds Tryz.pinned (OpenSpec.ofChange scriptMatchesSpecSpec)

/-- ITS FALSE NEIGHBOUR: 'it returns false'. Refute it at one input. -/
def scriptMatchesSpecWrong : ChangeSpec := { name := "scriptMatchesSpec", fn := fun _ => fun
  | [d1, d2, d3, d4, d5] => { results := [.lit (.bool false)], args := [d1, d2, d3, d4, d5] }
  | _ => none }
def ScriptMatchesSpecWrongFalsely : Prop := scriptMatchesSpecRow.holds Tryz.pinned (OpenSpec.ofChange scriptMatchesSpecWrong)

/-- 'custodylaw46.ScriptParsesAsSpecified': WHATEVER THE INPUT: true; the input reads as it did. -/
def scriptParsesAsSpecifiedSpec : ChangeSpec := { name := "scriptParsesAsSpecified", fn := fun _ => fun
  | [d] => { results := [.lit (.bool true)], args := [d] }
  | _ => none }
def scriptParsesAsSpecifiedRow : OpenClaim := { program := "ytldkfhimpkiigaagreatdoor", sum := "1216698a4436c2b4777b29df992b10649c8a37988e361ebea1fe19e7aca58e42", func := "custody/custodylaw46.ScriptParsesAsSpecified", spec := "scriptParsesAsSpecified", inPlace := ["internal/bytealg.CountString", "internal/bytealg.IndexByteString", "internal/bytealg.IndexString", "internal/abi.NoEscape", "internal/bytealg.MakeNoZero"], unfollowed := true, recurses := true, named := ["custody/script.rows", "strconv.ErrSyntax", "strconv.ErrRange", "internal/strconv.uint64pow10", "math/bits.deBruijn32tab", "math/bits.deBruijn64tab", "internal/bytealg.MaxLen", "unicode/utf8.first", "unicode/utf8.acceptRanges"], apart := false, laid := [("math/bits.deBruijn32tab", laid_math_bits_deBruijn32tab), ("math/bits.deBruijn64tab", laid_math_bits_deBruijn64tab), ("internal/strconv.uint64pow10", laid_internal_strconv_uint64pow10), ("unicode/utf8.acceptRanges", laid_unicode_utf8_acceptRanges), ("strconv.ErrRange", laid_strconv_ErrRange), ("strconv.ErrSyntax", laid_strconv_ErrSyntax), ("custody/script.rows", laid_custody_script_rows), ("unicode/utf8.first", laid_unicode_utf8_first)] }
def ScriptParsesAsSpecifiedSaid : Prop := scriptParsesAsSpecifiedRow.holds Tryz.pinned (OpenSpec.ofChange scriptParsesAsSpecifiedSpec)

/-- ITS FALSE NEIGHBOUR: 'it returns false'. Refute it at one input. -/
def scriptParsesAsSpecifiedWrong : ChangeSpec := { name := "scriptParsesAsSpecified", fn := fun _ => fun
  | [d] => { results := [.lit (.bool false)], args := [d] }
  | _ => none }
def ScriptParsesAsSpecifiedWrongFalsely : Prop := scriptParsesAsSpecifiedRow.holds Tryz.pinned (OpenSpec.ofChange scriptParsesAsSpecifiedWrong)

/-- 'custodylaw46.ScriptRoundTrip': WHATEVER THE INPUT: true; the input reads as it did. -/
def scriptRoundTripSpec : ChangeSpec := { name := "scriptRoundTrip", fn := fun _ => fun
  | [d] => { results := [.lit (.bool true)], args := [d] }
  | _ => none }
def scriptRoundTripRow : OpenClaim := { program := "ytldkfhimpkiigaagreatdoor", sum := "1216698a4436c2b4777b29df992b10649c8a37988e361ebea1fe19e7aca58e42", func := "custody/custodylaw46.ScriptRoundTrip", spec := "scriptRoundTrip", inPlace := ["internal/bytealg.CountString", "internal/bytealg.IndexByteString", "internal/bytealg.IndexString", "internal/abi.NoEscape", "internal/bytealg.MakeNoZero"], unfollowed := true, recurses := true, named := ["custody/script.rows", "strconv.ErrSyntax", "strconv.ErrRange", "internal/strconv.uint64pow10", "math/bits.deBruijn32tab", "math/bits.deBruijn64tab", "internal/bytealg.MaxLen", "unicode/utf8.first", "unicode/utf8.acceptRanges"], apart := false, laid := [("math/bits.deBruijn32tab", laid_math_bits_deBruijn32tab), ("math/bits.deBruijn64tab", laid_math_bits_deBruijn64tab), ("internal/strconv.uint64pow10", laid_internal_strconv_uint64pow10), ("unicode/utf8.acceptRanges", laid_unicode_utf8_acceptRanges), ("strconv.ErrRange", laid_strconv_ErrRange), ("strconv.ErrSyntax", laid_strconv_ErrSyntax), ("custody/script.rows", laid_custody_script_rows), ("unicode/utf8.first", laid_unicode_utf8_first)] }
def ScriptRoundTripSaid : Prop := scriptRoundTripRow.holds Tryz.pinned (OpenSpec.ofChange scriptRoundTripSpec)

/-- ITS FALSE NEIGHBOUR: 'it returns false'. Refute it at one input. -/
def scriptRoundTripWrong : ChangeSpec := { name := "scriptRoundTrip", fn := fun _ => fun
  | [d] => { results := [.lit (.bool false)], args := [d] }
  | _ => none }
def ScriptRoundTripWrongFalsely : Prop := scriptRoundTripRow.holds Tryz.pinned (OpenSpec.ofChange scriptRoundTripWrong)

/-- 'custodylaw46.ScriptJoins': WHATEVER THE INPUT: true; the input reads as it did. -/
def scriptJoinsSpec : ChangeSpec := { name := "scriptJoins", fn := fun _ => fun
  | [d1, d2] => { results := [.lit (.bool true)], args := [d1, d2] }
  | _ => none }
def scriptJoinsRow : OpenClaim := { program := "ytldkfhimpkiigaagreatdoor", sum := "1216698a4436c2b4777b29df992b10649c8a37988e361ebea1fe19e7aca58e42", func := "custody/custodylaw46.ScriptJoins", spec := "scriptJoins", inPlace := ["internal/bytealg.CountString", "internal/bytealg.IndexByteString", "internal/bytealg.IndexString", "internal/abi.NoEscape", "internal/bytealg.MakeNoZero"], unfollowed := true, recurses := true, named := ["custody/script.rows", "strconv.ErrSyntax", "strconv.ErrRange", "internal/strconv.uint64pow10", "math/bits.deBruijn32tab", "math/bits.deBruijn64tab", "internal/bytealg.MaxLen", "unicode/utf8.first", "unicode/utf8.acceptRanges"], apart := false, laid := [("math/bits.deBruijn32tab", laid_math_bits_deBruijn32tab), ("math/bits.deBruijn64tab", laid_math_bits_deBruijn64tab), ("internal/strconv.uint64pow10", laid_internal_strconv_uint64pow10), ("unicode/utf8.acceptRanges", laid_unicode_utf8_acceptRanges), ("strconv.ErrRange", laid_strconv_ErrRange), ("strconv.ErrSyntax", laid_strconv_ErrSyntax), ("custody/script.rows", laid_custody_script_rows), ("unicode/utf8.first", laid_unicode_utf8_first)] }
def ScriptJoinsSaid : Prop := scriptJoinsRow.holds Tryz.pinned (OpenSpec.ofChange scriptJoinsSpec)

/-- ITS FALSE NEIGHBOUR: 'it returns false'. Refute it at one input. -/
def scriptJoinsWrong : ChangeSpec := { name := "scriptJoins", fn := fun _ => fun
  | [d1, d2] => { results := [.lit (.bool false)], args := [d1, d2] }
  | _ => none }
def ScriptJoinsWrongFalsely : Prop := scriptJoinsRow.holds Tryz.pinned (OpenSpec.ofChange scriptJoinsWrong)

/-- 'custodylaw46.ScriptCanonical': WHATEVER THE INPUT: true; the input reads as it did. -/
def scriptCanonicalSpec : ChangeSpec := { name := "scriptCanonical", fn := fun _ => fun
  | [d] => { results := [.lit (.bool true)], args := [d] }
  | _ => none }
def scriptCanonicalRow : OpenClaim := { program := "ytldkfhimpkiigaagreatdoor", sum := "1216698a4436c2b4777b29df992b10649c8a37988e361ebea1fe19e7aca58e42", func := "custody/custodylaw46.ScriptCanonical", spec := "scriptCanonical", inPlace := ["internal/bytealg.CountString", "internal/bytealg.IndexByteString", "internal/bytealg.IndexString", "internal/abi.NoEscape", "internal/bytealg.MakeNoZero"], unfollowed := true, recurses := true, named := ["custody/script.rows", "strconv.ErrSyntax", "strconv.ErrRange", "internal/strconv.uint64pow10", "math/bits.deBruijn32tab", "math/bits.deBruijn64tab", "internal/bytealg.MaxLen", "unicode/utf8.first", "unicode/utf8.acceptRanges"], apart := false, laid := [("math/bits.deBruijn32tab", laid_math_bits_deBruijn32tab), ("math/bits.deBruijn64tab", laid_math_bits_deBruijn64tab), ("internal/strconv.uint64pow10", laid_internal_strconv_uint64pow10), ("unicode/utf8.acceptRanges", laid_unicode_utf8_acceptRanges), ("strconv.ErrRange", laid_strconv_ErrRange), ("strconv.ErrSyntax", laid_strconv_ErrSyntax), ("custody/script.rows", laid_custody_script_rows), ("unicode/utf8.first", laid_unicode_utf8_first)] }
def ScriptCanonicalSaid : Prop := scriptCanonicalRow.holds Tryz.pinned (OpenSpec.ofChange scriptCanonicalSpec)

/-- ITS FALSE NEIGHBOUR: 'it returns false'. Refute it at one input. -/
def scriptCanonicalWrong : ChangeSpec := { name := "scriptCanonical", fn := fun _ => fun
  | [d] => { results := [.lit (.bool false)], args := [d] }
  | _ => none }
def ScriptCanonicalWrongFalsely : Prop := scriptCanonicalRow.holds Tryz.pinned (OpenSpec.ofChange scriptCanonicalWrong)

/-- 'custodylaw46.ScriptLines': WHATEVER THE INPUT: true; the input reads as it did. -/
def scriptLinesSpec : ChangeSpec := { name := "scriptLines", fn := fun _ => fun
  | [d] => { results := [.lit (.bool true)], args := [d] }
  | _ => none }
def scriptLinesRow : OpenClaim := { program := "ytldkfhimpkiigaagreatdoor", sum := "1216698a4436c2b4777b29df992b10649c8a37988e361ebea1fe19e7aca58e42", func := "custody/custodylaw46.ScriptLines", spec := "scriptLines", inPlace := ["internal/bytealg.CountString", "internal/bytealg.IndexByteString", "internal/bytealg.IndexString", "internal/abi.NoEscape", "internal/bytealg.MakeNoZero"], unfollowed := true, recurses := true, named := ["custody/script.rows", "strconv.ErrSyntax", "strconv.ErrRange", "internal/strconv.uint64pow10", "math/bits.deBruijn32tab", "math/bits.deBruijn64tab", "internal/bytealg.MaxLen", "unicode/utf8.first", "unicode/utf8.acceptRanges"], apart := false, laid := [("math/bits.deBruijn32tab", laid_math_bits_deBruijn32tab), ("math/bits.deBruijn64tab", laid_math_bits_deBruijn64tab), ("internal/strconv.uint64pow10", laid_internal_strconv_uint64pow10), ("unicode/utf8.acceptRanges", laid_unicode_utf8_acceptRanges), ("strconv.ErrRange", laid_strconv_ErrRange), ("strconv.ErrSyntax", laid_strconv_ErrSyntax), ("custody/script.rows", laid_custody_script_rows), ("unicode/utf8.first", laid_unicode_utf8_first)] }
def ScriptLinesSaid : Prop := scriptLinesRow.holds Tryz.pinned (OpenSpec.ofChange scriptLinesSpec)

/-- ITS FALSE NEIGHBOUR: 'it returns false'. Refute it at one input. -/
def scriptLinesWrong : ChangeSpec := { name := "scriptLines", fn := fun _ => fun
  | [d] => { results := [.lit (.bool false)], args := [d] }
  | _ => none }
def ScriptLinesWrongFalsely : Prop := scriptLinesRow.holds Tryz.pinned (OpenSpec.ofChange scriptLinesWrong)

/- THE SECOND FORM. 'bulk': how many values and letters a reading holds, each counted each time it is reached (what is shared counts as often as it is met; a slice's spare places count too). A statement '..UptoSaid' is the law's where the arguments, and the package variables that the reading takes, are together of bulk at most 1048576: NARROWER than '..Said'. Prove '..Said' where nothing that the law and all that it calls make is longer than what came in: it says more and counts as full. Else prove '..UptoSaid'. A law counts once. -/
mutual
def uptoBulk {H : Type} : DataW H → Nat
  | .lit (.string bytes) => bytes.length + 1
  | .lit _ => 1
  | .nil => 1
  | .ptr d => uptoBulk d + 1
  | .slice elems spare => uptoBulkAll elems + uptoBulkAll spare + 1
  | .agg parts => uptoBulkAll parts + 1
  | .iface _ d => uptoBulk d + 1
  | .map entries => uptoBulkEntries entries + 1
  | .held _ => 1
def uptoBulkAll {H : Type} : List (DataW H) → Nat
  | [] => 0
  | d :: r => uptoBulk d + uptoBulkAll r
def uptoBulkEntries {H : Type} : List (Lit × DataW H) → Nat
  | [] => 0
  | x :: r => uptoBulkEntry x + uptoBulkEntries r
def uptoBulkEntry {H : Type} : Lit × DataW H → Nat
  | (.string bytes, d) => bytes.length + uptoBulk d + 1
  | (_, d) => uptoBulk d + 1
 end
def uptoSmall : (H : Type) → List (DataW H) → Bool := fun _ ds => decide (uptoBulkAll ds ≤ 1048576)
def OpenSpec.upto (s : _root_.Go.ChangeSpec) : _root_.Go.OpenSpec := { _root_.Go.OpenSpec.ofChange s with cond := some uptoSmall }

/-- 'custodylaw46.ScriptMatchesSpec', WHERE WHAT IT READS IS OF BULK AT MOST 1048576: true; the input reads as it did. -/
def scriptMatchesSpecUptoRow : OpenClaim := { program := "ytldkfhimpkiigaagreatdoor", sum := "1216698a4436c2b4777b29df992b10649c8a37988e361ebea1fe19e7aca58e42", func := "custody/custodylaw46.ScriptMatchesSpec", spec := "scriptMatchesSpec", inPlace := ["internal/bytealg.CountString", "internal/bytealg.IndexByteString", "internal/bytealg.IndexString", "internal/abi.NoEscape", "internal/bytealg.MakeNoZero"], unfollowed := true, recurses := true, named := ["custody/script.rows", "strconv.ErrSyntax", "strconv.ErrRange", "internal/strconv.uint64pow10", "math/bits.deBruijn32tab", "math/bits.deBruijn64tab", "internal/bytealg.MaxLen", "unicode/utf8.first", "unicode/utf8.acceptRanges"], apart := false, laid := [("math/bits.deBruijn32tab", laid_math_bits_deBruijn32tab), ("math/bits.deBruijn64tab", laid_math_bits_deBruijn64tab), ("internal/strconv.uint64pow10", laid_internal_strconv_uint64pow10), ("unicode/utf8.acceptRanges", laid_unicode_utf8_acceptRanges), ("strconv.ErrRange", laid_strconv_ErrRange), ("strconv.ErrSyntax", laid_strconv_ErrSyntax), ("custody/script.rows", laid_custody_script_rows), ("unicode/utf8.first", laid_unicode_utf8_first)], narrowed := true }
def ScriptMatchesSpecUptoSaid : Prop := scriptMatchesSpecUptoRow.holds Tryz.pinned (OpenSpec.upto scriptMatchesSpecSpec)

/-- 'custodylaw46.ScriptParsesAsSpecified', WHERE WHAT IT READS IS OF BULK AT MOST 1048576: true; the input reads as it did. -/
def scriptParsesAsSpecifiedUptoRow : OpenClaim := { program := "ytldkfhimpkiigaagreatdoor", sum := "1216698a4436c2b4777b29df992b10649c8a37988e361ebea1fe19e7aca58e42", func := "custody/custodylaw46.ScriptParsesAsSpecified", spec := "scriptParsesAsSpecified", inPlace := ["internal/bytealg.CountString", "internal/bytealg.IndexByteString", "internal/bytealg.IndexString", "internal/abi.NoEscape", "internal/bytealg.MakeNoZero"], unfollowed := true, recurses := true, named := ["custody/script.rows", "strconv.ErrSyntax", "strconv.ErrRange", "internal/strconv.uint64pow10", "math/bits.deBruijn32tab", "math/bits.deBruijn64tab", "internal/bytealg.MaxLen", "unicode/utf8.first", "unicode/utf8.acceptRanges"], apart := false, laid := [("math/bits.deBruijn32tab", laid_math_bits_deBruijn32tab), ("math/bits.deBruijn64tab", laid_math_bits_deBruijn64tab), ("internal/strconv.uint64pow10", laid_internal_strconv_uint64pow10), ("unicode/utf8.acceptRanges", laid_unicode_utf8_acceptRanges), ("strconv.ErrRange", laid_strconv_ErrRange), ("strconv.ErrSyntax", laid_strconv_ErrSyntax), ("custody/script.rows", laid_custody_script_rows), ("unicode/utf8.first", laid_unicode_utf8_first)], narrowed := true }
def ScriptParsesAsSpecifiedUptoSaid : Prop := scriptParsesAsSpecifiedUptoRow.holds Tryz.pinned (OpenSpec.upto scriptParsesAsSpecifiedSpec)

/-- 'custodylaw46.ScriptRoundTrip', WHERE WHAT IT READS IS OF BULK AT MOST 1048576: true; the input reads as it did. -/
def scriptRoundTripUptoRow : OpenClaim := { program := "ytldkfhimpkiigaagreatdoor", sum := "1216698a4436c2b4777b29df992b10649c8a37988e361ebea1fe19e7aca58e42", func := "custody/custodylaw46.ScriptRoundTrip", spec := "scriptRoundTrip", inPlace := ["internal/bytealg.CountString", "internal/bytealg.IndexByteString", "internal/bytealg.IndexString", "internal/abi.NoEscape", "internal/bytealg.MakeNoZero"], unfollowed := true, recurses := true, named := ["custody/script.rows", "strconv.ErrSyntax", "strconv.ErrRange", "internal/strconv.uint64pow10", "math/bits.deBruijn32tab", "math/bits.deBruijn64tab", "internal/bytealg.MaxLen", "unicode/utf8.first", "unicode/utf8.acceptRanges"], apart := false, laid := [("math/bits.deBruijn32tab", laid_math_bits_deBruijn32tab), ("math/bits.deBruijn64tab", laid_math_bits_deBruijn64tab), ("internal/strconv.uint64pow10", laid_internal_strconv_uint64pow10), ("unicode/utf8.acceptRanges", laid_unicode_utf8_acceptRanges), ("strconv.ErrRange", laid_strconv_ErrRange), ("strconv.ErrSyntax", laid_strconv_ErrSyntax), ("custody/script.rows", laid_custody_script_rows), ("unicode/utf8.first", laid_unicode_utf8_first)], narrowed := true }
def ScriptRoundTripUptoSaid : Prop := scriptRoundTripUptoRow.holds Tryz.pinned (OpenSpec.upto scriptRoundTripSpec)

/-- 'custodylaw46.ScriptJoins', WHERE WHAT IT READS IS OF BULK AT MOST 1048576: true; the input reads as it did. -/
def scriptJoinsUptoRow : OpenClaim := { program := "ytldkfhimpkiigaagreatdoor", sum := "1216698a4436c2b4777b29df992b10649c8a37988e361ebea1fe19e7aca58e42", func := "custody/custodylaw46.ScriptJoins", spec := "scriptJoins", inPlace := ["internal/bytealg.CountString", "internal/bytealg.IndexByteString", "internal/bytealg.IndexString", "internal/abi.NoEscape", "internal/bytealg.MakeNoZero"], unfollowed := true, recurses := true, named := ["custody/script.rows", "strconv.ErrSyntax", "strconv.ErrRange", "internal/strconv.uint64pow10", "math/bits.deBruijn32tab", "math/bits.deBruijn64tab", "internal/bytealg.MaxLen", "unicode/utf8.first", "unicode/utf8.acceptRanges"], apart := false, laid := [("math/bits.deBruijn32tab", laid_math_bits_deBruijn32tab), ("math/bits.deBruijn64tab", laid_math_bits_deBruijn64tab), ("internal/strconv.uint64pow10", laid_internal_strconv_uint64pow10), ("unicode/utf8.acceptRanges", laid_unicode_utf8_acceptRanges), ("strconv.ErrRange", laid_strconv_ErrRange), ("strconv.ErrSyntax", laid_strconv_ErrSyntax), ("custody/script.rows", laid_custody_script_rows), ("unicode/utf8.first", laid_unicode_utf8_first)], narrowed := true }
def ScriptJoinsUptoSaid : Prop := scriptJoinsUptoRow.holds Tryz.pinned (OpenSpec.upto scriptJoinsSpec)

/-- 'custodylaw46.ScriptCanonical', WHERE WHAT IT READS IS OF BULK AT MOST 1048576: true; the input reads as it did. -/
def scriptCanonicalUptoRow : OpenClaim := { program := "ytldkfhimpkiigaagreatdoor", sum := "1216698a4436c2b4777b29df992b10649c8a37988e361ebea1fe19e7aca58e42", func := "custody/custodylaw46.ScriptCanonical", spec := "scriptCanonical", inPlace := ["internal/bytealg.CountString", "internal/bytealg.IndexByteString", "internal/bytealg.IndexString", "internal/abi.NoEscape", "internal/bytealg.MakeNoZero"], unfollowed := true, recurses := true, named := ["custody/script.rows", "strconv.ErrSyntax", "strconv.ErrRange", "internal/strconv.uint64pow10", "math/bits.deBruijn32tab", "math/bits.deBruijn64tab", "internal/bytealg.MaxLen", "unicode/utf8.first", "unicode/utf8.acceptRanges"], apart := false, laid := [("math/bits.deBruijn32tab", laid_math_bits_deBruijn32tab), ("math/bits.deBruijn64tab", laid_math_bits_deBruijn64tab), ("internal/strconv.uint64pow10", laid_internal_strconv_uint64pow10), ("unicode/utf8.acceptRanges", laid_unicode_utf8_acceptRanges), ("strconv.ErrRange", laid_strconv_ErrRange), ("strconv.ErrSyntax", laid_strconv_ErrSyntax), ("custody/script.rows", laid_custody_script_rows), ("unicode/utf8.first", laid_unicode_utf8_first)], narrowed := true }
def ScriptCanonicalUptoSaid : Prop := scriptCanonicalUptoRow.holds Tryz.pinned (OpenSpec.upto scriptCanonicalSpec)

/-- 'custodylaw46.ScriptLines', WHERE WHAT IT READS IS OF BULK AT MOST 1048576: true; the input reads as it did. -/
def scriptLinesUptoRow : OpenClaim := { program := "ytldkfhimpkiigaagreatdoor", sum := "1216698a4436c2b4777b29df992b10649c8a37988e361ebea1fe19e7aca58e42", func := "custody/custodylaw46.ScriptLines", spec := "scriptLines", inPlace := ["internal/bytealg.CountString", "internal/bytealg.IndexByteString", "internal/bytealg.IndexString", "internal/abi.NoEscape", "internal/bytealg.MakeNoZero"], unfollowed := true, recurses := true, named := ["custody/script.rows", "strconv.ErrSyntax", "strconv.ErrRange", "internal/strconv.uint64pow10", "math/bits.deBruijn32tab", "math/bits.deBruijn64tab", "internal/bytealg.MaxLen", "unicode/utf8.first", "unicode/utf8.acceptRanges"], apart := false, laid := [("math/bits.deBruijn32tab", laid_math_bits_deBruijn32tab), ("math/bits.deBruijn64tab", laid_math_bits_deBruijn64tab), ("internal/strconv.uint64pow10", laid_internal_strconv_uint64pow10), ("unicode/utf8.acceptRanges", laid_unicode_utf8_acceptRanges), ("strconv.ErrRange", laid_strconv_ErrRange), ("strconv.ErrSyntax", laid_strconv_ErrSyntax), ("custody/script.rows", laid_custody_script_rows), ("unicode/utf8.first", laid_unicode_utf8_first)], narrowed := true }
def ScriptLinesUptoSaid : Prop := scriptLinesUptoRow.holds Tryz.pinned (OpenSpec.upto scriptLinesSpec)

end Rows
end Go.Proofs.YtldkfhimpkiigaaGreatDoor
