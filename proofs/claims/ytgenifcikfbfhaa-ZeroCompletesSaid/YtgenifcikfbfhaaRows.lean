/-
  No cell of these rows narrows 'for every input' (looked for: loops, veiled, ifaces, maps, wideKeys, modest, calm, conditions, laid).
  DERIVED. THE GIVEN ROWS OF THIS SEAT. 4 by the template 'for every input the law returns true; each argument reads behind the call as it read before'; 0 by the template 'total and deterministic' (their statements: YtgenifcikfbfhaaTotals.lean).
  GIVEN WITH THE SEED: the statements are not yours to turn. If you find one false, say at which input.
  Laid BY PROGRAM, IN A SANDBOX (cutbox-rows.mjs): the forced cells as the released guide's own fill.sh prints them over the translation d7dbfefa6a0d0e7e… (all of the seat's roots in one cut). By AI agents, Wed Nov 11 2026. No macro, syntax, notation, axiom, sorry.
-/
import Derived.Test.YtgenifcikfbfhaaChecked
import GoSem.Claim
import GoSem.ClaimJoined
import GoSem.ClaimMapViews
import Derived.JoinedTies
import Derived.KernelRfl
namespace Go.Proofs.Ytgenifcikfbfhaa
/- THE CELL 'sum', in the pinned program and in every row, IS THE sha256 OF THE DUMP (.gsa) THAT YtgenifcikfbfhaaProg.lean LOADS. Nothing in Lean hashes anything: it is a label: what it is worth is what the hold of that sum in a sandbox is worth. -/
noncomputable def Try.pinned : Pinned := { name := "ytgenifcikfbfhaa", sum := "d7dbfefa6a0d0e7e1e469ca2bb036d79061a0a5afebadccf3bd095e2c1dbd285", checked := Try.checked }
namespace Rows
def none {H : Type} : Left H := { results := [], args := [] }

/-- 'custodylaw33.ZeroOrder': WHATEVER THE INPUT: true; the input reads as it did. -/
def zeroOrderSpec : ChangeSpec := { name := "zeroOrder", fn := fun _ => fun
  | [d1, d2, d3, d4] => { results := [.lit (.bool true)], args := [d1, d2, d3, d4] }
  | _ => none }
def zeroOrderRow : OpenClaim := { program := "ytgenifcikfbfhaa", sum := "d7dbfefa6a0d0e7e1e469ca2bb036d79061a0a5afebadccf3bd095e2c1dbd285", func := "custody/custodylaw33.ZeroOrder", spec := "zeroOrder", inPlace := ["internal/abi.NoEscape", "internal/bytealg.MakeNoZero"], unfollowed := true, recurses := true, apart := false }
def ZeroOrderSaid : Prop := zeroOrderRow.holds Try.pinned (OpenSpec.ofChange zeroOrderSpec)

/-- ITS FALSE NEIGHBOUR: 'it returns false'. Refute it at one input. -/
def zeroOrderWrong : ChangeSpec := { name := "zeroOrder", fn := fun _ => fun
  | [d1, d2, d3, d4] => { results := [.lit (.bool false)], args := [d1, d2, d3, d4] }
  | _ => none }
def ZeroOrderWrongFalsely : Prop := zeroOrderRow.holds Try.pinned (OpenSpec.ofChange zeroOrderWrong)

/-- 'custodylaw33.ZeroNeverBack': WHATEVER THE INPUT: true; the input reads as it did. -/
def zeroNeverBackSpec : ChangeSpec := { name := "zeroNeverBack", fn := fun _ => fun
  | [d1, d2, d3, d4] => { results := [.lit (.bool true)], args := [d1, d2, d3, d4] }
  | _ => none }
def zeroNeverBackRow : OpenClaim := { program := "ytgenifcikfbfhaa", sum := "d7dbfefa6a0d0e7e1e469ca2bb036d79061a0a5afebadccf3bd095e2c1dbd285", func := "custody/custodylaw33.ZeroNeverBack", spec := "zeroNeverBack", inPlace := ["internal/abi.NoEscape", "internal/bytealg.MakeNoZero"], unfollowed := true, recurses := true, apart := false }
def ZeroNeverBackSaid : Prop := zeroNeverBackRow.holds Try.pinned (OpenSpec.ofChange zeroNeverBackSpec)

/-- ITS FALSE NEIGHBOUR: 'it returns false'. Refute it at one input. -/
def zeroNeverBackWrong : ChangeSpec := { name := "zeroNeverBack", fn := fun _ => fun
  | [d1, d2, d3, d4] => { results := [.lit (.bool false)], args := [d1, d2, d3, d4] }
  | _ => none }
def ZeroNeverBackWrongFalsely : Prop := zeroNeverBackRow.holds Try.pinned (OpenSpec.ofChange zeroNeverBackWrong)

/-- 'custodylaw33.ZeroCompletes': WHATEVER THE INPUT: true; the input reads as it did. -/
def zeroCompletesSpec : ChangeSpec := { name := "zeroCompletes", fn := fun _ => fun
  | [d1, d2, d3, d4, d5] => { results := [.lit (.bool true)], args := [d1, d2, d3, d4, d5] }
  | _ => none }
def zeroCompletesRow : OpenClaim := { program := "ytgenifcikfbfhaa", sum := "d7dbfefa6a0d0e7e1e469ca2bb036d79061a0a5afebadccf3bd095e2c1dbd285", func := "custody/custodylaw33.ZeroCompletes", spec := "zeroCompletes", inPlace := ["internal/abi.NoEscape", "internal/bytealg.MakeNoZero"], unfollowed := true, recurses := true, apart := false }
def ZeroCompletesSaid : Prop := zeroCompletesRow.holds Try.pinned (OpenSpec.ofChange zeroCompletesSpec)

/-- ITS FALSE NEIGHBOUR: 'it returns false'. Refute it at one input. -/
def zeroCompletesWrong : ChangeSpec := { name := "zeroCompletes", fn := fun _ => fun
  | [d1, d2, d3, d4, d5] => { results := [.lit (.bool false)], args := [d1, d2, d3, d4, d5] }
  | _ => none }
def ZeroCompletesWrongFalsely : Prop := zeroCompletesRow.holds Try.pinned (OpenSpec.ofChange zeroCompletesWrong)

/-- 'custodylaw33.ZeroSteps': WHATEVER THE INPUT: true; the input reads as it did. -/
def zeroStepsSpec : ChangeSpec := { name := "zeroSteps", fn := fun _ => fun
  | [d1, d2, d3] => { results := [.lit (.bool true)], args := [d1, d2, d3] }
  | _ => none }
def zeroStepsRow : OpenClaim := { program := "ytgenifcikfbfhaa", sum := "d7dbfefa6a0d0e7e1e469ca2bb036d79061a0a5afebadccf3bd095e2c1dbd285", func := "custody/custodylaw33.ZeroSteps", spec := "zeroSteps", inPlace := ["internal/abi.NoEscape", "internal/bytealg.MakeNoZero"], unfollowed := true, recurses := true, apart := false }
def ZeroStepsSaid : Prop := zeroStepsRow.holds Try.pinned (OpenSpec.ofChange zeroStepsSpec)

/-- ITS FALSE NEIGHBOUR: 'it returns false'. Refute it at one input. -/
def zeroStepsWrong : ChangeSpec := { name := "zeroSteps", fn := fun _ => fun
  | [d1, d2, d3] => { results := [.lit (.bool false)], args := [d1, d2, d3] }
  | _ => none }
def ZeroStepsWrongFalsely : Prop := zeroStepsRow.holds Try.pinned (OpenSpec.ofChange zeroStepsWrong)

/- THE SECOND FORM. 'bulk': how many values and letters a reading holds, each counted each time it is reached (what is shared counts as often as it is met; a slice's spare places count too). A statement '..UptoSaid' is the law's where the arguments, and the package variables that the reading takes, are together of bulk at most 1048576: NARROWER than '..Said'. Prove '..Said' where nothing that the law and all that it calls make is longer than what came in: it says more and counts as full. Else prove '..UptoSaid'. A law counts once. -/
mutual
def uptoBulk {H : Type} : DataW H → Nat
  | .lit (.string bytes) => bytes.length + 1
  | .lit _ => 1
  | .nil => 1
  | .ptr d => uptoBulk d + 1
  | .slice elems spare => uptoBulkAll elems + uptoBulkAll spare + 1
  | .agg parts => uptoBulkAll parts + 1
  | .iface _ d => uptoBulk d + 1
  | .map entries => uptoBulkEntries entries + 1
  | .held _ => 1
def uptoBulkAll {H : Type} : List (DataW H) → Nat
  | [] => 0
  | d :: r => uptoBulk d + uptoBulkAll r
def uptoBulkEntries {H : Type} : List (Lit × DataW H) → Nat
  | [] => 0
  | x :: r => uptoBulkEntry x + uptoBulkEntries r
def uptoBulkEntry {H : Type} : Lit × DataW H → Nat
  | (.string bytes, d) => bytes.length + uptoBulk d + 1
  | (_, d) => uptoBulk d + 1
 end
def uptoSmall : (H : Type) → List (DataW H) → Bool := fun _ ds => decide (uptoBulkAll ds ≤ 1048576)
def OpenSpec.upto (s : _root_.Go.ChangeSpec) : _root_.Go.OpenSpec := { _root_.Go.OpenSpec.ofChange s with cond := some uptoSmall }

/-- 'custodylaw33.ZeroOrder', WHERE WHAT IT READS IS OF BULK AT MOST 1048576: true; the input reads as it did. -/
def zeroOrderUptoRow : OpenClaim := { program := "ytgenifcikfbfhaa", sum := "d7dbfefa6a0d0e7e1e469ca2bb036d79061a0a5afebadccf3bd095e2c1dbd285", func := "custody/custodylaw33.ZeroOrder", spec := "zeroOrder", inPlace := ["internal/abi.NoEscape", "internal/bytealg.MakeNoZero"], unfollowed := true, recurses := true, apart := false, narrowed := true }
def ZeroOrderUptoSaid : Prop := zeroOrderUptoRow.holds Try.pinned (OpenSpec.upto zeroOrderSpec)

/-- 'custodylaw33.ZeroNeverBack', WHERE WHAT IT READS IS OF BULK AT MOST 1048576: true; the input reads as it did. -/
def zeroNeverBackUptoRow : OpenClaim := { program := "ytgenifcikfbfhaa", sum := "d7dbfefa6a0d0e7e1e469ca2bb036d79061a0a5afebadccf3bd095e2c1dbd285", func := "custody/custodylaw33.ZeroNeverBack", spec := "zeroNeverBack", inPlace := ["internal/abi.NoEscape", "internal/bytealg.MakeNoZero"], unfollowed := true, recurses := true, apart := false, narrowed := true }
def ZeroNeverBackUptoSaid : Prop := zeroNeverBackUptoRow.holds Try.pinned (OpenSpec.upto zeroNeverBackSpec)

/-- 'custodylaw33.ZeroCompletes', WHERE WHAT IT READS IS OF BULK AT MOST 1048576: true; the input reads as it did. -/
def zeroCompletesUptoRow : OpenClaim := { program := "ytgenifcikfbfhaa", sum := "d7dbfefa6a0d0e7e1e469ca2bb036d79061a0a5afebadccf3bd095e2c1dbd285", func := "custody/custodylaw33.ZeroCompletes", spec := "zeroCompletes", inPlace := ["internal/abi.NoEscape", "internal/bytealg.MakeNoZero"], unfollowed := true, recurses := true, apart := false, narrowed := true }
def ZeroCompletesUptoSaid : Prop := zeroCompletesUptoRow.holds Try.pinned (OpenSpec.upto zeroCompletesSpec)

/-- 'custodylaw33.ZeroSteps', WHERE WHAT IT READS IS OF BULK AT MOST 1048576: true; the input reads as it did. -/
def zeroStepsUptoRow : OpenClaim := { program := "ytgenifcikfbfhaa", sum := "d7dbfefa6a0d0e7e1e469ca2bb036d79061a0a5afebadccf3bd095e2c1dbd285", func := "custody/custodylaw33.ZeroSteps", spec := "zeroSteps", inPlace := ["internal/abi.NoEscape", "internal/bytealg.MakeNoZero"], unfollowed := true, recurses := true, apart := false, narrowed := true }
def ZeroStepsUptoSaid : Prop := zeroStepsUptoRow.holds Try.pinned (OpenSpec.upto zeroStepsSpec)

end Rows
end Go.Proofs.Ytgenifcikfbfhaa
