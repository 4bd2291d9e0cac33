/-
  NARROWER THAN 'FOR EVERY INPUT', by the rows' own cells (each row's printed sentence says how): LexTokensMatchSpec: laid · LexSpotMatchesSpec: laid · LexJoinMatchesSpec: laid · LexTokensLieInText: laid · LexJoinKeepsTokens: laid · LexGapsDoNotMatter: laid.
  DERIVED. THE GIVEN ROWS OF THIS SEAT. 6 by the template 'for every input the law returns true; each argument reads behind the call as it read before'; 0 by the template 'total and deterministic' (their statements: YtgieiehpnjhkoabDoorTotals.lean).
  GIVEN WITH THE SEED: the statements are not yours to turn. If you find one false, say at which input.
  Laid BY PROGRAM, IN A SANDBOX (cutbox-rows.mjs): the forced cells as the released guide's own fill.sh prints them over the translation 8e6f23182b9241e8… (all of the seat's roots in one cut). By AI agents, Wed Nov 11 2026. No macro, syntax, notation, axiom, sorry.
-/
import Derived.Test.YtgieiehpnjhkoabDoorChecked
import GoSem.Claim
import GoSem.ClaimJoined
import GoSem.ClaimMapViews
import Derived.JoinedTies
import Derived.KernelRfl
namespace Go.Proofs.YtgieiehpnjhkoabDoor
/- THE CELL 'sum', in the pinned program and in every row, IS THE sha256 OF THE DUMP (.gsa) THAT YtgieiehpnjhkoabDoorProg.lean LOADS. Nothing in Lean hashes anything: it is a label: what it is worth is what the hold of that sum in a sandbox is worth. -/
noncomputable def Tryd.pinned : Pinned := { name := "ytgieiehpnjhkoabdoor", sum := "8e6f23182b9241e825d82f7f28cb9a7272684e439869146b446691af8c79bf9f", checked := Tryd.checked }
namespace Rows
def none {H : Type} : Left H := { results := [], args := [] }

/- WHAT THE LISTED PACKAGE-LEVEL VARIABLES READ AS WHEN THE CALL BEGINS. Each datum BY PROGRAM (the guide's laid-datum.mjs) off the statement by which the dump's own 'gosem.cut.vars' lays the variable. In a bare row this is a premise. The card (YtgieiehpnjhkoabDoorCards.lean) ties it to the program's text. -/
def laid_custody_lex_units {H : Type} : DataW H := .agg [.agg [.lit (.int .u8 115), .lit (.int .i64 1)], .agg [.lit (.int .u8 109), .lit (.int .i64 60)], .agg [.lit (.int .u8 104), .lit (.int .i64 3600)], .agg [.lit (.int .u8 100), .lit (.int .i64 86400)]]

/-- 'custodylaw11.LexTokensMatchSpec': WHATEVER THE INPUT: true; the input reads as it did. -/
def lexTokensMatchSpecSpec : ChangeSpec := { name := "lexTokensMatchSpec", fn := fun _ => fun
  | [d] => { results := [.lit (.bool true)], args := [d] }
  | _ => none }
def lexTokensMatchSpecRow : OpenClaim := { program := "ytgieiehpnjhkoabdoor", sum := "8e6f23182b9241e825d82f7f28cb9a7272684e439869146b446691af8c79bf9f", func := "custody/custodylaw11.LexTokensMatchSpec", spec := "lexTokensMatchSpec", inPlace := ["internal/bytealg.IndexByteString", "internal/bytealg.CountString", "internal/bytealg.IndexString", "internal/abi.NoEscape", "internal/bytealg.MakeNoZero"], unfollowed := true, recurses := true, named := ["custody/lex.units", "internal/bytealg.MaxLen"], apart := false, laid := [("custody/lex.units", laid_custody_lex_units)] }
def LexTokensMatchSpecSaid : Prop := lexTokensMatchSpecRow.holds Tryd.pinned (OpenSpec.ofChange lexTokensMatchSpecSpec)

/-- ITS FALSE NEIGHBOUR: 'it returns false'. Refute it at one input. -/
def lexTokensMatchSpecWrong : ChangeSpec := { name := "lexTokensMatchSpec", fn := fun _ => fun
  | [d] => { results := [.lit (.bool false)], args := [d] }
  | _ => none }
def LexTokensMatchSpecWrongFalsely : Prop := lexTokensMatchSpecRow.holds Tryd.pinned (OpenSpec.ofChange lexTokensMatchSpecWrong)

/-- 'custodylaw11.LexSpotMatchesSpec': WHATEVER THE INPUT: true; the input reads as it did. -/
def lexSpotMatchesSpecSpec : ChangeSpec := { name := "lexSpotMatchesSpec", fn := fun _ => fun
  | [d1, d2] => { results := [.lit (.bool true)], args := [d1, d2] }
  | _ => none }
def lexSpotMatchesSpecRow : OpenClaim := { program := "ytgieiehpnjhkoabdoor", sum := "8e6f23182b9241e825d82f7f28cb9a7272684e439869146b446691af8c79bf9f", func := "custody/custodylaw11.LexSpotMatchesSpec", spec := "lexSpotMatchesSpec", inPlace := ["internal/bytealg.IndexByteString", "internal/bytealg.CountString", "internal/bytealg.IndexString", "internal/abi.NoEscape", "internal/bytealg.MakeNoZero"], unfollowed := true, recurses := true, named := ["custody/lex.units", "internal/bytealg.MaxLen"], apart := false, laid := [("custody/lex.units", laid_custody_lex_units)] }
def LexSpotMatchesSpecSaid : Prop := lexSpotMatchesSpecRow.holds Tryd.pinned (OpenSpec.ofChange lexSpotMatchesSpecSpec)

/-- ITS FALSE NEIGHBOUR: 'it returns false'. Refute it at one input. -/
def lexSpotMatchesSpecWrong : ChangeSpec := { name := "lexSpotMatchesSpec", fn := fun _ => fun
  | [d1, d2] => { results := [.lit (.bool false)], args := [d1, d2] }
  | _ => none }
def LexSpotMatchesSpecWrongFalsely : Prop := lexSpotMatchesSpecRow.holds Tryd.pinned (OpenSpec.ofChange lexSpotMatchesSpecWrong)

/-- 'custodylaw11.LexJoinMatchesSpec': WHATEVER THE INPUT: true; the input reads as it did. -/
def lexJoinMatchesSpecSpec : ChangeSpec := { name := "lexJoinMatchesSpec", fn := fun _ => fun
  | [d] => { results := [.lit (.bool true)], args := [d] }
  | _ => none }
def lexJoinMatchesSpecRow : OpenClaim := { program := "ytgieiehpnjhkoabdoor", sum := "8e6f23182b9241e825d82f7f28cb9a7272684e439869146b446691af8c79bf9f", func := "custody/custodylaw11.LexJoinMatchesSpec", spec := "lexJoinMatchesSpec", inPlace := ["internal/bytealg.IndexByteString", "internal/bytealg.CountString", "internal/bytealg.IndexString", "internal/abi.NoEscape", "internal/bytealg.MakeNoZero"], unfollowed := true, recurses := true, named := ["custody/lex.units", "internal/bytealg.MaxLen"], apart := false, laid := [("custody/lex.units", laid_custody_lex_units)] }
def LexJoinMatchesSpecSaid : Prop := lexJoinMatchesSpecRow.holds Tryd.pinned (OpenSpec.ofChange lexJoinMatchesSpecSpec)

/-- ITS FALSE NEIGHBOUR: 'it returns false'. Refute it at one input. -/
def lexJoinMatchesSpecWrong : ChangeSpec := { name := "lexJoinMatchesSpec", fn := fun _ => fun
  | [d] => { results := [.lit (.bool false)], args := [d] }
  | _ => none }
def LexJoinMatchesSpecWrongFalsely : Prop := lexJoinMatchesSpecRow.holds Tryd.pinned (OpenSpec.ofChange lexJoinMatchesSpecWrong)

/-- 'custodylaw11.LexTokensLieInText': WHATEVER THE INPUT: true; the input reads as it did. -/
def lexTokensLieInTextSpec : ChangeSpec := { name := "lexTokensLieInText", fn := fun _ => fun
  | [d] => { results := [.lit (.bool true)], args := [d] }
  | _ => none }
def lexTokensLieInTextRow : OpenClaim := { program := "ytgieiehpnjhkoabdoor", sum := "8e6f23182b9241e825d82f7f28cb9a7272684e439869146b446691af8c79bf9f", func := "custody/custodylaw11.LexTokensLieInText", spec := "lexTokensLieInText", inPlace := ["internal/bytealg.IndexByteString", "internal/bytealg.CountString", "internal/bytealg.IndexString", "internal/abi.NoEscape", "internal/bytealg.MakeNoZero"], unfollowed := true, recurses := true, named := ["custody/lex.units", "internal/bytealg.MaxLen"], apart := false, laid := [("custody/lex.units", laid_custody_lex_units)] }
def LexTokensLieInTextSaid : Prop := lexTokensLieInTextRow.holds Tryd.pinned (OpenSpec.ofChange lexTokensLieInTextSpec)

/-- ITS FALSE NEIGHBOUR: 'it returns false'. Refute it at one input. -/
def lexTokensLieInTextWrong : ChangeSpec := { name := "lexTokensLieInText", fn := fun _ => fun
  | [d] => { results := [.lit (.bool false)], args := [d] }
  | _ => none }
def LexTokensLieInTextWrongFalsely : Prop := lexTokensLieInTextRow.holds Tryd.pinned (OpenSpec.ofChange lexTokensLieInTextWrong)

/-- 'custodylaw11.LexJoinKeepsTokens': WHATEVER THE INPUT: true; the input reads as it did. -/
def lexJoinKeepsTokensSpec : ChangeSpec := { name := "lexJoinKeepsTokens", fn := fun _ => fun
  | [d] => { results := [.lit (.bool true)], args := [d] }
  | _ => none }
def lexJoinKeepsTokensRow : OpenClaim := { program := "ytgieiehpnjhkoabdoor", sum := "8e6f23182b9241e825d82f7f28cb9a7272684e439869146b446691af8c79bf9f", func := "custody/custodylaw11.LexJoinKeepsTokens", spec := "lexJoinKeepsTokens", inPlace := ["internal/bytealg.IndexByteString", "internal/bytealg.CountString", "internal/bytealg.IndexString", "internal/abi.NoEscape", "internal/bytealg.MakeNoZero"], unfollowed := true, recurses := true, named := ["custody/lex.units", "internal/bytealg.MaxLen"], apart := false, laid := [("custody/lex.units", laid_custody_lex_units)] }
def LexJoinKeepsTokensSaid : Prop := lexJoinKeepsTokensRow.holds Tryd.pinned (OpenSpec.ofChange lexJoinKeepsTokensSpec)

/-- ITS FALSE NEIGHBOUR: 'it returns false'. Refute it at one input. -/
def lexJoinKeepsTokensWrong : ChangeSpec := { name := "lexJoinKeepsTokens", fn := fun _ => fun
  | [d] => { results := [.lit (.bool false)], args := [d] }
  | _ => none }
def LexJoinKeepsTokensWrongFalsely : Prop := lexJoinKeepsTokensRow.holds Tryd.pinned (OpenSpec.ofChange lexJoinKeepsTokensWrong)

/-- 'custodylaw11.LexGapsDoNotMatter': WHATEVER THE INPUT: true; the input reads as it did. -/
def lexGapsDoNotMatterSpec : ChangeSpec := { name := "lexGapsDoNotMatter", fn := fun _ => fun
  | [d1, d2, d3] => { results := [.lit (.bool true)], args := [d1, d2, d3] }
  | _ => none }
def lexGapsDoNotMatterRow : OpenClaim := { program := "ytgieiehpnjhkoabdoor", sum := "8e6f23182b9241e825d82f7f28cb9a7272684e439869146b446691af8c79bf9f", func := "custody/custodylaw11.LexGapsDoNotMatter", spec := "lexGapsDoNotMatter", inPlace := ["internal/bytealg.IndexByteString", "internal/bytealg.CountString", "internal/bytealg.IndexString", "internal/abi.NoEscape", "internal/bytealg.MakeNoZero"], unfollowed := true, recurses := true, named := ["custody/lex.units", "internal/bytealg.MaxLen"], apart := false, laid := [("custody/lex.units", laid_custody_lex_units)] }
def LexGapsDoNotMatterSaid : Prop := lexGapsDoNotMatterRow.holds Tryd.pinned (OpenSpec.ofChange lexGapsDoNotMatterSpec)

/-- ITS FALSE NEIGHBOUR: 'it returns false'. Refute it at one input. -/
def lexGapsDoNotMatterWrong : ChangeSpec := { name := "lexGapsDoNotMatter", fn := fun _ => fun
  | [d1, d2, d3] => { results := [.lit (.bool false)], args := [d1, d2, d3] }
  | _ => none }
def LexGapsDoNotMatterWrongFalsely : Prop := lexGapsDoNotMatterRow.holds Tryd.pinned (OpenSpec.ofChange lexGapsDoNotMatterWrong)

/- THE SECOND FORM. 'bulk': how many values and letters a reading holds, each counted each time it is reached (what is shared counts as often as it is met; a slice's spare places count too). A statement '..UptoSaid' is the law's where the arguments, and the package variables that the reading takes, are together of bulk at most 1048576: NARROWER than '..Said'. Prove '..Said' where nothing that the law and all that it calls make is longer than what came in: it says more and counts as full. Else prove '..UptoSaid'. A law counts once. -/
mutual
def uptoBulk {H : Type} : DataW H → Nat
  | .lit (.string bytes) => bytes.length + 1
  | .lit _ => 1
  | .nil => 1
  | .ptr d => uptoBulk d + 1
  | .slice elems spare => uptoBulkAll elems + uptoBulkAll spare + 1
  | .agg parts => uptoBulkAll parts + 1
  | .iface _ d => uptoBulk d + 1
  | .map entries => uptoBulkEntries entries + 1
  | .held _ => 1
def uptoBulkAll {H : Type} : List (DataW H) → Nat
  | [] => 0
  | d :: r => uptoBulk d + uptoBulkAll r
def uptoBulkEntries {H : Type} : List (Lit × DataW H) → Nat
  | [] => 0
  | x :: r => uptoBulkEntry x + uptoBulkEntries r
def uptoBulkEntry {H : Type} : Lit × DataW H → Nat
  | (.string bytes, d) => bytes.length + uptoBulk d + 1
  | (_, d) => uptoBulk d + 1
 end
def uptoSmall : (H : Type) → List (DataW H) → Bool := fun _ ds => decide (uptoBulkAll ds ≤ 1048576)
def OpenSpec.upto (s : _root_.Go.ChangeSpec) : _root_.Go.OpenSpec := { _root_.Go.OpenSpec.ofChange s with cond := some uptoSmall }

/-- 'custodylaw11.LexTokensMatchSpec', WHERE WHAT IT READS IS OF BULK AT MOST 1048576: true; the input reads as it did. -/
def lexTokensMatchSpecUptoRow : OpenClaim := { program := "ytgieiehpnjhkoabdoor", sum := "8e6f23182b9241e825d82f7f28cb9a7272684e439869146b446691af8c79bf9f", func := "custody/custodylaw11.LexTokensMatchSpec", spec := "lexTokensMatchSpec", inPlace := ["internal/bytealg.IndexByteString", "internal/bytealg.CountString", "internal/bytealg.IndexString", "internal/abi.NoEscape", "internal/bytealg.MakeNoZero"], unfollowed := true, recurses := true, named := ["custody/lex.units", "internal/bytealg.MaxLen"], apart := false, laid := [("custody/lex.units", laid_custody_lex_units)], narrowed := true }
def LexTokensMatchSpecUptoSaid : Prop := lexTokensMatchSpecUptoRow.holds Tryd.pinned (OpenSpec.upto lexTokensMatchSpecSpec)

/-- 'custodylaw11.LexSpotMatchesSpec', WHERE WHAT IT READS IS OF BULK AT MOST 1048576: true; the input reads as it did. -/
def lexSpotMatchesSpecUptoRow : OpenClaim := { program := "ytgieiehpnjhkoabdoor", sum := "8e6f23182b9241e825d82f7f28cb9a7272684e439869146b446691af8c79bf9f", func := "custody/custodylaw11.LexSpotMatchesSpec", spec := "lexSpotMatchesSpec", inPlace := ["internal/bytealg.IndexByteString", "internal/bytealg.CountString", "internal/bytealg.IndexString", "internal/abi.NoEscape", "internal/bytealg.MakeNoZero"], unfollowed := true, recurses := true, named := ["custody/lex.units", "internal/bytealg.MaxLen"], apart := false, laid := [("custody/lex.units", laid_custody_lex_units)], narrowed := true }
def LexSpotMatchesSpecUptoSaid : Prop := lexSpotMatchesSpecUptoRow.holds Tryd.pinned (OpenSpec.upto lexSpotMatchesSpecSpec)

/-- 'custodylaw11.LexJoinMatchesSpec', WHERE WHAT IT READS IS OF BULK AT MOST 1048576: true; the input reads as it did. -/
def lexJoinMatchesSpecUptoRow : OpenClaim := { program := "ytgieiehpnjhkoabdoor", sum := "8e6f23182b9241e825d82f7f28cb9a7272684e439869146b446691af8c79bf9f", func := "custody/custodylaw11.LexJoinMatchesSpec", spec := "lexJoinMatchesSpec", inPlace := ["internal/bytealg.IndexByteString", "internal/bytealg.CountString", "internal/bytealg.IndexString", "internal/abi.NoEscape", "internal/bytealg.MakeNoZero"], unfollowed := true, recurses := true, named := ["custody/lex.units", "internal/bytealg.MaxLen"], apart := false, laid := [("custody/lex.units", laid_custody_lex_units)], narrowed := true }
def LexJoinMatchesSpecUptoSaid : Prop := lexJoinMatchesSpecUptoRow.holds Tryd.pinned (OpenSpec.upto lexJoinMatchesSpecSpec)

/-- 'custodylaw11.LexTokensLieInText', WHERE WHAT IT READS IS OF BULK AT MOST 1048576: true; the input reads as it did. -/
def lexTokensLieInTextUptoRow : OpenClaim := { program := "ytgieiehpnjhkoabdoor", sum := "8e6f23182b9241e825d82f7f28cb9a7272684e439869146b446691af8c79bf9f", func := "custody/custodylaw11.LexTokensLieInText", spec := "lexTokensLieInText", inPlace := ["internal/bytealg.IndexByteString", "internal/bytealg.CountString", "internal/bytealg.IndexString", "internal/abi.NoEscape", "internal/bytealg.MakeNoZero"], unfollowed := true, recurses := true, named := ["custody/lex.units", "internal/bytealg.MaxLen"], apart := false, laid := [("custody/lex.units", laid_custody_lex_units)], narrowed := true }
def LexTokensLieInTextUptoSaid : Prop := lexTokensLieInTextUptoRow.holds Tryd.pinned (OpenSpec.upto lexTokensLieInTextSpec)

/-- 'custodylaw11.LexJoinKeepsTokens', WHERE WHAT IT READS IS OF BULK AT MOST 1048576: true; the input reads as it did. -/
def lexJoinKeepsTokensUptoRow : OpenClaim := { program := "ytgieiehpnjhkoabdoor", sum := "8e6f23182b9241e825d82f7f28cb9a7272684e439869146b446691af8c79bf9f", func := "custody/custodylaw11.LexJoinKeepsTokens", spec := "lexJoinKeepsTokens", inPlace := ["internal/bytealg.IndexByteString", "internal/bytealg.CountString", "internal/bytealg.IndexString", "internal/abi.NoEscape", "internal/bytealg.MakeNoZero"], unfollowed := true, recurses := true, named := ["custody/lex.units", "internal/bytealg.MaxLen"], apart := false, laid := [("custody/lex.units", laid_custody_lex_units)], narrowed := true }
def LexJoinKeepsTokensUptoSaid : Prop := lexJoinKeepsTokensUptoRow.holds Tryd.pinned (OpenSpec.upto lexJoinKeepsTokensSpec)

/-- 'custodylaw11.LexGapsDoNotMatter', WHERE WHAT IT READS IS OF BULK AT MOST 1048576: true; the input reads as it did. -/
def lexGapsDoNotMatterUptoRow : OpenClaim := { program := "ytgieiehpnjhkoabdoor", sum := "8e6f23182b9241e825d82f7f28cb9a7272684e439869146b446691af8c79bf9f", func := "custody/custodylaw11.LexGapsDoNotMatter", spec := "lexGapsDoNotMatter", inPlace := ["internal/bytealg.IndexByteString", "internal/bytealg.CountString", "internal/bytealg.IndexString", "internal/abi.NoEscape", "internal/bytealg.MakeNoZero"], unfollowed := true, recurses := true, named := ["custody/lex.units", "internal/bytealg.MaxLen"], apart := false, laid := [("custody/lex.units", laid_custody_lex_units)], narrowed := true }
def LexGapsDoNotMatterUptoSaid : Prop := lexGapsDoNotMatterUptoRow.holds Tryd.pinned (OpenSpec.upto lexGapsDoNotMatterSpec)

end Rows
end Go.Proofs.YtgieiehpnjhkoabDoor
