/-
  NARROWER THAN 'FOR EVERY INPUT', by the rows' own cells (each row's printed sentence says how): SessionHandshakeMatchesSpec: laid · SessionMessagesMatchSpec: laid · SessionWindowMatchesSpec: laid · SessionTableMatchesSpec: laid · SessionDelivers: laid · SessionNeverTwice: laid · SessionOnlyAuthentic: laid.
  DERIVED. THE GIVEN ROWS OF THIS SEAT. 7 by the template 'for every input the law returns true; each argument reads behind the call as it read before'; 0 by the template 'total and deterministic' (their statements: YtbhagfdkipgggaaDoorTotals.lean).
  GIVEN WITH THE SEED: the statements are not yours to turn. If you find one false, say at which input.
  Laid BY PROGRAM, IN A SANDBOX (cutbox-rows.mjs): the forced cells as the released guide's own fill.sh prints them over the translation 4e0fc3f8556d01fb… (all of the seat's roots in one cut). By AI agents, Wed Nov 11 2026. No macro, syntax, notation, axiom, sorry.
-/
import Derived.Test.YtbhagfdkipgggaaDoorChecked
import GoSem.Claim
import GoSem.ClaimJoined
import GoSem.ClaimMapViews
import Derived.JoinedTies
import Derived.KernelRfl
namespace Go.Proofs.YtbhagfdkipgggaaDoor
/- THE CELL 'sum', in the pinned program and in every row, IS THE sha256 OF THE DUMP (.gsa) THAT YtbhagfdkipgggaaDoorProg.lean LOADS. Nothing in Lean hashes anything: it is a label: what it is worth is what the hold of that sum in a sandbox is worth. -/
noncomputable def Tryd.pinned : Pinned := { name := "ytbhagfdkipgggaadoor", sum := "4e0fc3f8556d01fb6429b19516c4883f3eb6282def539d2b5db77b4460ef8062", checked := Tryd.checked }
namespace Rows
def none {H : Type} : Left H := { results := [], args := [] }

/- WHAT THE LISTED PACKAGE-LEVEL VARIABLES READ AS WHEN THE CALL BEGINS. Each datum BY PROGRAM (the guide's laid-datum.mjs) off the statement by which the dump's own 'gosem.cut.vars' lays the variable. In a bare row this is a premise. The card (YtbhagfdkipgggaaDoorCards.lean) ties it to the program's text. -/
def laid_custody_custodyref02_constants {H : Type} : DataW H := .agg [.lit (.int .u32 1116352408), .lit (.int .u32 1899447441), .lit (.int .u32 3049323471), .lit (.int .u32 3921009573), .lit (.int .u32 961987163), .lit (.int .u32 1508970993), .lit (.int .u32 2453635748), .lit (.int .u32 2870763221), .lit (.int .u32 3624381080), .lit (.int .u32 310598401), .lit (.int .u32 607225278), .lit (.int .u32 1426881987), .lit (.int .u32 1925078388), .lit (.int .u32 2162078206), .lit (.int .u32 2614888103), .lit (.int .u32 3248222580), .lit (.int .u32 3835390401), .lit (.int .u32 4022224774), .lit (.int .u32 264347078), .lit (.int .u32 604807628), .lit (.int .u32 770255983), .lit (.int .u32 1249150122), .lit (.int .u32 1555081692), .lit (.int .u32 1996064986), .lit (.int .u32 2554220882), .lit (.int .u32 2821834349), .lit (.int .u32 2952996808), .lit (.int .u32 3210313671), .lit (.int .u32 3336571891), .lit (.int .u32 3584528711), .lit (.int .u32 113926993), .lit (.int .u32 338241895), .lit (.int .u32 666307205), .lit (.int .u32 773529912), .lit (.int .u32 1294757372), .lit (.int .u32 1396182291), .lit (.int .u32 1695183700), .lit (.int .u32 1986661051), .lit (.int .u32 2177026350), .lit (.int .u32 2456956037), .lit (.int .u32 2730485921), .lit (.int .u32 2820302411), .lit (.int .u32 3259730800), .lit (.int .u32 3345764771), .lit (.int .u32 3516065817), .lit (.int .u32 3600352804), .lit (.int .u32 4094571909), .lit (.int .u32 275423344), .lit (.int .u32 430227734), .lit (.int .u32 506948616), .lit (.int .u32 659060556), .lit (.int .u32 883997877), .lit (.int .u32 958139571), .lit (.int .u32 1322822218), .lit (.int .u32 1537002063), .lit (.int .u32 1747873779), .lit (.int .u32 1955562222), .lit (.int .u32 2024104815), .lit (.int .u32 2227730452), .lit (.int .u32 2361852424), .lit (.int .u32 2428436474), .lit (.int .u32 2756734187), .lit (.int .u32 3204031479), .lit (.int .u32 3329325298)]
def laid_custody_hash_constants {H : Type} : DataW H := .agg [.lit (.int .u32 1116352408), .lit (.int .u32 1899447441), .lit (.int .u32 3049323471), .lit (.int .u32 3921009573), .lit (.int .u32 961987163), .lit (.int .u32 1508970993), .lit (.int .u32 2453635748), .lit (.int .u32 2870763221), .lit (.int .u32 3624381080), .lit (.int .u32 310598401), .lit (.int .u32 607225278), .lit (.int .u32 1426881987), .lit (.int .u32 1925078388), .lit (.int .u32 2162078206), .lit (.int .u32 2614888103), .lit (.int .u32 3248222580), .lit (.int .u32 3835390401), .lit (.int .u32 4022224774), .lit (.int .u32 264347078), .lit (.int .u32 604807628), .lit (.int .u32 770255983), .lit (.int .u32 1249150122), .lit (.int .u32 1555081692), .lit (.int .u32 1996064986), .lit (.int .u32 2554220882), .lit (.int .u32 2821834349), .lit (.int .u32 2952996808), .lit (.int .u32 3210313671), .lit (.int .u32 3336571891), .lit (.int .u32 3584528711), .lit (.int .u32 113926993), .lit (.int .u32 338241895), .lit (.int .u32 666307205), .lit (.int .u32 773529912), .lit (.int .u32 1294757372), .lit (.int .u32 1396182291), .lit (.int .u32 1695183700), .lit (.int .u32 1986661051), .lit (.int .u32 2177026350), .lit (.int .u32 2456956037), .lit (.int .u32 2730485921), .lit (.int .u32 2820302411), .lit (.int .u32 3259730800), .lit (.int .u32 3345764771), .lit (.int .u32 3516065817), .lit (.int .u32 3600352804), .lit (.int .u32 4094571909), .lit (.int .u32 275423344), .lit (.int .u32 430227734), .lit (.int .u32 506948616), .lit (.int .u32 659060556), .lit (.int .u32 883997877), .lit (.int .u32 958139571), .lit (.int .u32 1322822218), .lit (.int .u32 1537002063), .lit (.int .u32 1747873779), .lit (.int .u32 1955562222), .lit (.int .u32 2024104815), .lit (.int .u32 2227730452), .lit (.int .u32 2361852424), .lit (.int .u32 2428436474), .lit (.int .u32 2756734187), .lit (.int .u32 3204031479), .lit (.int .u32 3329325298)]

/-- 'custodylaw29.SessionHandshakeMatchesSpec': WHATEVER THE INPUT: true; the input reads as it did. -/
def sessionHandshakeMatchesSpecSpec : ChangeSpec := { name := "sessionHandshakeMatchesSpec", fn := fun _ => fun
  | [d1, d2, d3] => { results := [.lit (.bool true)], args := [d1, d2, d3] }
  | _ => none }
def sessionHandshakeMatchesSpecRow : OpenClaim := { program := "ytbhagfdkipgggaadoor", sum := "4e0fc3f8556d01fb6429b19516c4883f3eb6282def539d2b5db77b4460ef8062", func := "custody/custodylaw29.SessionHandshakeMatchesSpec", spec := "sessionHandshakeMatchesSpec", inPlace := ["internal/abi.NoEscape", "internal/bytealg.MakeNoZero", "slices.overlaps[custody/api.Session]"], unfollowed := true, recurses := true, named := ["custody/hash.constants", "custody/custodyref02.constants"], apart := false, laid := [("custody/custodyref02.constants", laid_custody_custodyref02_constants), ("custody/hash.constants", laid_custody_hash_constants)] }
def SessionHandshakeMatchesSpecSaid : Prop := sessionHandshakeMatchesSpecRow.holds Tryd.pinned (OpenSpec.ofChange sessionHandshakeMatchesSpecSpec)

/-- ITS FALSE NEIGHBOUR: 'it returns false'. Refute it at one input. -/
def sessionHandshakeMatchesSpecWrong : ChangeSpec := { name := "sessionHandshakeMatchesSpec", fn := fun _ => fun
  | [d1, d2, d3] => { results := [.lit (.bool false)], args := [d1, d2, d3] }
  | _ => none }
def SessionHandshakeMatchesSpecWrongFalsely : Prop := sessionHandshakeMatchesSpecRow.holds Tryd.pinned (OpenSpec.ofChange sessionHandshakeMatchesSpecWrong)

/-- 'custodylaw29.SessionMessagesMatchSpec': WHATEVER THE INPUT: true; the input reads as it did. -/
def sessionMessagesMatchSpecSpec : ChangeSpec := { name := "sessionMessagesMatchSpec", fn := fun _ => fun
  | [d1, d2, d3] => { results := [.lit (.bool true)], args := [d1, d2, d3] }
  | _ => none }
def sessionMessagesMatchSpecRow : OpenClaim := { program := "ytbhagfdkipgggaadoor", sum := "4e0fc3f8556d01fb6429b19516c4883f3eb6282def539d2b5db77b4460ef8062", func := "custody/custodylaw29.SessionMessagesMatchSpec", spec := "sessionMessagesMatchSpec", inPlace := ["internal/abi.NoEscape", "internal/bytealg.MakeNoZero", "slices.overlaps[custody/api.Session]"], unfollowed := true, recurses := true, named := ["custody/hash.constants", "custody/custodyref02.constants"], apart := false, laid := [("custody/custodyref02.constants", laid_custody_custodyref02_constants), ("custody/hash.constants", laid_custody_hash_constants)] }
def SessionMessagesMatchSpecSaid : Prop := sessionMessagesMatchSpecRow.holds Tryd.pinned (OpenSpec.ofChange sessionMessagesMatchSpecSpec)

/-- ITS FALSE NEIGHBOUR: 'it returns false'. Refute it at one input. -/
def sessionMessagesMatchSpecWrong : ChangeSpec := { name := "sessionMessagesMatchSpec", fn := fun _ => fun
  | [d1, d2, d3] => { results := [.lit (.bool false)], args := [d1, d2, d3] }
  | _ => none }
def SessionMessagesMatchSpecWrongFalsely : Prop := sessionMessagesMatchSpecRow.holds Tryd.pinned (OpenSpec.ofChange sessionMessagesMatchSpecWrong)

/-- 'custodylaw29.SessionWindowMatchesSpec': WHATEVER THE INPUT: true; the input reads as it did. -/
def sessionWindowMatchesSpecSpec : ChangeSpec := { name := "sessionWindowMatchesSpec", fn := fun _ => fun
  | [d1, d2] => { results := [.lit (.bool true)], args := [d1, d2] }
  | _ => none }
def sessionWindowMatchesSpecRow : OpenClaim := { program := "ytbhagfdkipgggaadoor", sum := "4e0fc3f8556d01fb6429b19516c4883f3eb6282def539d2b5db77b4460ef8062", func := "custody/custodylaw29.SessionWindowMatchesSpec", spec := "sessionWindowMatchesSpec", inPlace := ["internal/abi.NoEscape", "internal/bytealg.MakeNoZero", "slices.overlaps[custody/api.Session]"], unfollowed := true, recurses := true, named := ["custody/hash.constants"], apart := false, laid := [("custody/hash.constants", laid_custody_hash_constants)] }
def SessionWindowMatchesSpecSaid : Prop := sessionWindowMatchesSpecRow.holds Tryd.pinned (OpenSpec.ofChange sessionWindowMatchesSpecSpec)

/-- ITS FALSE NEIGHBOUR: 'it returns false'. Refute it at one input. -/
def sessionWindowMatchesSpecWrong : ChangeSpec := { name := "sessionWindowMatchesSpec", fn := fun _ => fun
  | [d1, d2] => { results := [.lit (.bool false)], args := [d1, d2] }
  | _ => none }
def SessionWindowMatchesSpecWrongFalsely : Prop := sessionWindowMatchesSpecRow.holds Tryd.pinned (OpenSpec.ofChange sessionWindowMatchesSpecWrong)

/-- 'custodylaw29.SessionTableMatchesSpec': WHATEVER THE INPUT: true; the input reads as it did. -/
def sessionTableMatchesSpecSpec : ChangeSpec := { name := "sessionTableMatchesSpec", fn := fun _ => fun
  | [d1, d2, d3] => { results := [.lit (.bool true)], args := [d1, d2, d3] }
  | _ => none }
def sessionTableMatchesSpecRow : OpenClaim := { program := "ytbhagfdkipgggaadoor", sum := "4e0fc3f8556d01fb6429b19516c4883f3eb6282def539d2b5db77b4460ef8062", func := "custody/custodylaw29.SessionTableMatchesSpec", spec := "sessionTableMatchesSpec", inPlace := ["internal/abi.NoEscape", "internal/bytealg.MakeNoZero", "slices.overlaps[custody/api.Session]"], unfollowed := true, recurses := true, named := ["custody/hash.constants"], apart := false, laid := [("custody/hash.constants", laid_custody_hash_constants)] }
def SessionTableMatchesSpecSaid : Prop := sessionTableMatchesSpecRow.holds Tryd.pinned (OpenSpec.ofChange sessionTableMatchesSpecSpec)

/-- ITS FALSE NEIGHBOUR: 'it returns false'. Refute it at one input. -/
def sessionTableMatchesSpecWrong : ChangeSpec := { name := "sessionTableMatchesSpec", fn := fun _ => fun
  | [d1, d2, d3] => { results := [.lit (.bool false)], args := [d1, d2, d3] }
  | _ => none }
def SessionTableMatchesSpecWrongFalsely : Prop := sessionTableMatchesSpecRow.holds Tryd.pinned (OpenSpec.ofChange sessionTableMatchesSpecWrong)

/-- 'custodylaw29.SessionDelivers': WHATEVER THE INPUT: true; the input reads as it did. -/
def sessionDeliversSpec : ChangeSpec := { name := "sessionDelivers", fn := fun _ => fun
  | [d1, d2, d3, d4] => { results := [.lit (.bool true)], args := [d1, d2, d3, d4] }
  | _ => none }
def sessionDeliversRow : OpenClaim := { program := "ytbhagfdkipgggaadoor", sum := "4e0fc3f8556d01fb6429b19516c4883f3eb6282def539d2b5db77b4460ef8062", func := "custody/custodylaw29.SessionDelivers", spec := "sessionDelivers", inPlace := ["internal/abi.NoEscape", "internal/bytealg.MakeNoZero", "slices.overlaps[custody/api.Session]"], unfollowed := true, recurses := true, named := ["custody/hash.constants", "custody/custodyref02.constants"], apart := false, laid := [("custody/custodyref02.constants", laid_custody_custodyref02_constants), ("custody/hash.constants", laid_custody_hash_constants)] }
def SessionDeliversSaid : Prop := sessionDeliversRow.holds Tryd.pinned (OpenSpec.ofChange sessionDeliversSpec)

/-- ITS FALSE NEIGHBOUR: 'it returns false'. Refute it at one input. -/
def sessionDeliversWrong : ChangeSpec := { name := "sessionDelivers", fn := fun _ => fun
  | [d1, d2, d3, d4] => { results := [.lit (.bool false)], args := [d1, d2, d3, d4] }
  | _ => none }
def SessionDeliversWrongFalsely : Prop := sessionDeliversRow.holds Tryd.pinned (OpenSpec.ofChange sessionDeliversWrong)

/-- 'custodylaw29.SessionNeverTwice': WHATEVER THE INPUT: true; the input reads as it did. -/
def sessionNeverTwiceSpec : ChangeSpec := { name := "sessionNeverTwice", fn := fun _ => fun
  | [d1, d2] => { results := [.lit (.bool true)], args := [d1, d2] }
  | _ => none }
def sessionNeverTwiceRow : OpenClaim := { program := "ytbhagfdkipgggaadoor", sum := "4e0fc3f8556d01fb6429b19516c4883f3eb6282def539d2b5db77b4460ef8062", func := "custody/custodylaw29.SessionNeverTwice", spec := "sessionNeverTwice", inPlace := ["internal/abi.NoEscape", "internal/bytealg.MakeNoZero", "slices.overlaps[custody/api.Session]"], unfollowed := true, recurses := true, named := ["custody/hash.constants"], apart := false, laid := [("custody/hash.constants", laid_custody_hash_constants)] }
def SessionNeverTwiceSaid : Prop := sessionNeverTwiceRow.holds Tryd.pinned (OpenSpec.ofChange sessionNeverTwiceSpec)

/-- ITS FALSE NEIGHBOUR: 'it returns false'. Refute it at one input. -/
def sessionNeverTwiceWrong : ChangeSpec := { name := "sessionNeverTwice", fn := fun _ => fun
  | [d1, d2] => { results := [.lit (.bool false)], args := [d1, d2] }
  | _ => none }
def SessionNeverTwiceWrongFalsely : Prop := sessionNeverTwiceRow.holds Tryd.pinned (OpenSpec.ofChange sessionNeverTwiceWrong)

/-- 'custodylaw29.SessionOnlyAuthentic': WHATEVER THE INPUT: true; the input reads as it did. -/
def sessionOnlyAuthenticSpec : ChangeSpec := { name := "sessionOnlyAuthentic", fn := fun _ => fun
  | [d1, d2, d3, d4, d5] => { results := [.lit (.bool true)], args := [d1, d2, d3, d4, d5] }
  | _ => none }
def sessionOnlyAuthenticRow : OpenClaim := { program := "ytbhagfdkipgggaadoor", sum := "4e0fc3f8556d01fb6429b19516c4883f3eb6282def539d2b5db77b4460ef8062", func := "custody/custodylaw29.SessionOnlyAuthentic", spec := "sessionOnlyAuthentic", inPlace := ["internal/abi.NoEscape", "internal/bytealg.MakeNoZero", "slices.overlaps[custody/api.Session]"], unfollowed := true, recurses := true, named := ["custody/hash.constants"], apart := false, laid := [("custody/hash.constants", laid_custody_hash_constants)] }
def SessionOnlyAuthenticSaid : Prop := sessionOnlyAuthenticRow.holds Tryd.pinned (OpenSpec.ofChange sessionOnlyAuthenticSpec)

/-- ITS FALSE NEIGHBOUR: 'it returns false'. Refute it at one input. -/
def sessionOnlyAuthenticWrong : ChangeSpec := { name := "sessionOnlyAuthentic", fn := fun _ => fun
  | [d1, d2, d3, d4, d5] => { results := [.lit (.bool false)], args := [d1, d2, d3, d4, d5] }
  | _ => none }
def SessionOnlyAuthenticWrongFalsely : Prop := sessionOnlyAuthenticRow.holds Tryd.pinned (OpenSpec.ofChange sessionOnlyAuthenticWrong)

/- THE SECOND FORM. 'bulk': how many values and letters a reading holds, each counted each time it is reached (what is shared counts as often as it is met; a slice's spare places count too). A statement '..UptoSaid' is the law's where the arguments, and the package variables that the reading takes, are together of bulk at most 1048576: NARROWER than '..Said'. Prove '..Said' where nothing that the law and all that it calls make is longer than what came in: it says more and counts as full. Else prove '..UptoSaid'. A law counts once. -/
mutual
def uptoBulk {H : Type} : DataW H → Nat
  | .lit (.string bytes) => bytes.length + 1
  | .lit _ => 1
  | .nil => 1
  | .ptr d => uptoBulk d + 1
  | .slice elems spare => uptoBulkAll elems + uptoBulkAll spare + 1
  | .agg parts => uptoBulkAll parts + 1
  | .iface _ d => uptoBulk d + 1
  | .map entries => uptoBulkEntries entries + 1
  | .held _ => 1
def uptoBulkAll {H : Type} : List (DataW H) → Nat
  | [] => 0
  | d :: r => uptoBulk d + uptoBulkAll r
def uptoBulkEntries {H : Type} : List (Lit × DataW H) → Nat
  | [] => 0
  | x :: r => uptoBulkEntry x + uptoBulkEntries r
def uptoBulkEntry {H : Type} : Lit × DataW H → Nat
  | (.string bytes, d) => bytes.length + uptoBulk d + 1
  | (_, d) => uptoBulk d + 1
 end
def uptoSmall : (H : Type) → List (DataW H) → Bool := fun _ ds => decide (uptoBulkAll ds ≤ 1048576)
def OpenSpec.upto (s : _root_.Go.ChangeSpec) : _root_.Go.OpenSpec := { _root_.Go.OpenSpec.ofChange s with cond := some uptoSmall }

/-- 'custodylaw29.SessionHandshakeMatchesSpec', WHERE WHAT IT READS IS OF BULK AT MOST 1048576: true; the input reads as it did. -/
def sessionHandshakeMatchesSpecUptoRow : OpenClaim := { program := "ytbhagfdkipgggaadoor", sum := "4e0fc3f8556d01fb6429b19516c4883f3eb6282def539d2b5db77b4460ef8062", func := "custody/custodylaw29.SessionHandshakeMatchesSpec", spec := "sessionHandshakeMatchesSpec", inPlace := ["internal/abi.NoEscape", "internal/bytealg.MakeNoZero", "slices.overlaps[custody/api.Session]"], unfollowed := true, recurses := true, named := ["custody/hash.constants", "custody/custodyref02.constants"], apart := false, laid := [("custody/custodyref02.constants", laid_custody_custodyref02_constants), ("custody/hash.constants", laid_custody_hash_constants)], narrowed := true }
def SessionHandshakeMatchesSpecUptoSaid : Prop := sessionHandshakeMatchesSpecUptoRow.holds Tryd.pinned (OpenSpec.upto sessionHandshakeMatchesSpecSpec)

/-- 'custodylaw29.SessionMessagesMatchSpec', WHERE WHAT IT READS IS OF BULK AT MOST 1048576: true; the input reads as it did. -/
def sessionMessagesMatchSpecUptoRow : OpenClaim := { program := "ytbhagfdkipgggaadoor", sum := "4e0fc3f8556d01fb6429b19516c4883f3eb6282def539d2b5db77b4460ef8062", func := "custody/custodylaw29.SessionMessagesMatchSpec", spec := "sessionMessagesMatchSpec", inPlace := ["internal/abi.NoEscape", "internal/bytealg.MakeNoZero", "slices.overlaps[custody/api.Session]"], unfollowed := true, recurses := true, named := ["custody/hash.constants", "custody/custodyref02.constants"], apart := false, laid := [("custody/custodyref02.constants", laid_custody_custodyref02_constants), ("custody/hash.constants", laid_custody_hash_constants)], narrowed := true }
def SessionMessagesMatchSpecUptoSaid : Prop := sessionMessagesMatchSpecUptoRow.holds Tryd.pinned (OpenSpec.upto sessionMessagesMatchSpecSpec)

/-- 'custodylaw29.SessionWindowMatchesSpec', WHERE WHAT IT READS IS OF BULK AT MOST 1048576: true; the input reads as it did. -/
def sessionWindowMatchesSpecUptoRow : OpenClaim := { program := "ytbhagfdkipgggaadoor", sum := "4e0fc3f8556d01fb6429b19516c4883f3eb6282def539d2b5db77b4460ef8062", func := "custody/custodylaw29.SessionWindowMatchesSpec", spec := "sessionWindowMatchesSpec", inPlace := ["internal/abi.NoEscape", "internal/bytealg.MakeNoZero", "slices.overlaps[custody/api.Session]"], unfollowed := true, recurses := true, named := ["custody/hash.constants"], apart := false, laid := [("custody/hash.constants", laid_custody_hash_constants)], narrowed := true }
def SessionWindowMatchesSpecUptoSaid : Prop := sessionWindowMatchesSpecUptoRow.holds Tryd.pinned (OpenSpec.upto sessionWindowMatchesSpecSpec)

/-- 'custodylaw29.SessionTableMatchesSpec', WHERE WHAT IT READS IS OF BULK AT MOST 1048576: true; the input reads as it did. -/
def sessionTableMatchesSpecUptoRow : OpenClaim := { program := "ytbhagfdkipgggaadoor", sum := "4e0fc3f8556d01fb6429b19516c4883f3eb6282def539d2b5db77b4460ef8062", func := "custody/custodylaw29.SessionTableMatchesSpec", spec := "sessionTableMatchesSpec", inPlace := ["internal/abi.NoEscape", "internal/bytealg.MakeNoZero", "slices.overlaps[custody/api.Session]"], unfollowed := true, recurses := true, named := ["custody/hash.constants"], apart := false, laid := [("custody/hash.constants", laid_custody_hash_constants)], narrowed := true }
def SessionTableMatchesSpecUptoSaid : Prop := sessionTableMatchesSpecUptoRow.holds Tryd.pinned (OpenSpec.upto sessionTableMatchesSpecSpec)

/-- 'custodylaw29.SessionDelivers', WHERE WHAT IT READS IS OF BULK AT MOST 1048576: true; the input reads as it did. -/
def sessionDeliversUptoRow : OpenClaim := { program := "ytbhagfdkipgggaadoor", sum := "4e0fc3f8556d01fb6429b19516c4883f3eb6282def539d2b5db77b4460ef8062", func := "custody/custodylaw29.SessionDelivers", spec := "sessionDelivers", inPlace := ["internal/abi.NoEscape", "internal/bytealg.MakeNoZero", "slices.overlaps[custody/api.Session]"], unfollowed := true, recurses := true, named := ["custody/hash.constants", "custody/custodyref02.constants"], apart := false, laid := [("custody/custodyref02.constants", laid_custody_custodyref02_constants), ("custody/hash.constants", laid_custody_hash_constants)], narrowed := true }
def SessionDeliversUptoSaid : Prop := sessionDeliversUptoRow.holds Tryd.pinned (OpenSpec.upto sessionDeliversSpec)

/-- 'custodylaw29.SessionNeverTwice', WHERE WHAT IT READS IS OF BULK AT MOST 1048576: true; the input reads as it did. -/
def sessionNeverTwiceUptoRow : OpenClaim := { program := "ytbhagfdkipgggaadoor", sum := "4e0fc3f8556d01fb6429b19516c4883f3eb6282def539d2b5db77b4460ef8062", func := "custody/custodylaw29.SessionNeverTwice", spec := "sessionNeverTwice", inPlace := ["internal/abi.NoEscape", "internal/bytealg.MakeNoZero", "slices.overlaps[custody/api.Session]"], unfollowed := true, recurses := true, named := ["custody/hash.constants"], apart := false, laid := [("custody/hash.constants", laid_custody_hash_constants)], narrowed := true }
def SessionNeverTwiceUptoSaid : Prop := sessionNeverTwiceUptoRow.holds Tryd.pinned (OpenSpec.upto sessionNeverTwiceSpec)

/-- 'custodylaw29.SessionOnlyAuthentic', WHERE WHAT IT READS IS OF BULK AT MOST 1048576: true; the input reads as it did. -/
def sessionOnlyAuthenticUptoRow : OpenClaim := { program := "ytbhagfdkipgggaadoor", sum := "4e0fc3f8556d01fb6429b19516c4883f3eb6282def539d2b5db77b4460ef8062", func := "custody/custodylaw29.SessionOnlyAuthentic", spec := "sessionOnlyAuthentic", inPlace := ["internal/abi.NoEscape", "internal/bytealg.MakeNoZero", "slices.overlaps[custody/api.Session]"], unfollowed := true, recurses := true, named := ["custody/hash.constants"], apart := false, laid := [("custody/hash.constants", laid_custody_hash_constants)], narrowed := true }
def SessionOnlyAuthenticUptoSaid : Prop := sessionOnlyAuthenticUptoRow.holds Tryd.pinned (OpenSpec.upto sessionOnlyAuthenticSpec)

end Rows
end Go.Proofs.YtbhagfdkipgggaaDoor
