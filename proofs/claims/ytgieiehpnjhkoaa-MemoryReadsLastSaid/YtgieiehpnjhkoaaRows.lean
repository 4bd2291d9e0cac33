/-
  No cell of these rows narrows 'for every input' (looked for: loops, veiled, ifaces, maps, wideKeys, modest, calm, conditions, laid).
  DERIVED. THE GIVEN ROWS OF THIS SEAT. 6 by the template 'for every input the law returns true; each argument reads behind the call as it read before'; 0 by the template 'total and deterministic' (their statements: YtgieiehpnjhkoaaTotals.lean).
  GIVEN WITH THE SEED: the statements are not yours to turn. If you find one false, say at which input.
  Laid BY PROGRAM, IN A SANDBOX (cutbox-rows.mjs): the forced cells as the released guide's own fill.sh prints them over the translation 779064bb4dce55d7… (all of the seat's roots in one cut). By AI agents, Wed Nov 11 2026. No macro, syntax, notation, axiom, sorry.
-/
import Derived.Test.YtgieiehpnjhkoaaChecked
import GoSem.Claim
import GoSem.ClaimJoined
import GoSem.ClaimMapViews
import Derived.JoinedTies
import Derived.KernelRfl
namespace Go.Proofs.Ytgieiehpnjhkoaa
/- THE CELL 'sum', in the pinned program and in every row, IS THE sha256 OF THE DUMP (.gsa) THAT YtgieiehpnjhkoaaProg.lean LOADS. Nothing in Lean hashes anything: it is a label: what it is worth is what the hold of that sum in a sandbox is worth. -/
noncomputable def Try.pinned : Pinned := { name := "ytgieiehpnjhkoaa", sum := "779064bb4dce55d7246d316a4d89d8598372be9f1289873c39018066ca53fb28", checked := Try.checked }
namespace Rows
def none {H : Type} : Left H := { results := [], args := [] }

/-- 'custodylaw22.MemoryMatchesSpec': WHATEVER THE INPUT: true; the input reads as it did. -/
def memoryMatchesSpecSpec : ChangeSpec := { name := "memoryMatchesSpec", fn := fun _ => fun
  | [d1, d2] => { results := [.lit (.bool true)], args := [d1, d2] }
  | _ => none }
def memoryMatchesSpecRow : OpenClaim := { program := "ytgieiehpnjhkoaa", sum := "779064bb4dce55d7246d316a4d89d8598372be9f1289873c39018066ca53fb28", func := "custody/custodylaw22.MemoryMatchesSpec", spec := "memoryMatchesSpec", inPlace := ["internal/abi.NoEscape", "internal/bytealg.MakeNoZero"], unfollowed := true, recurses := true, apart := false }
def MemoryMatchesSpecSaid : Prop := memoryMatchesSpecRow.holds Try.pinned (OpenSpec.ofChange memoryMatchesSpecSpec)

/-- ITS FALSE NEIGHBOUR: 'it returns false'. Refute it at one input. -/
def memoryMatchesSpecWrong : ChangeSpec := { name := "memoryMatchesSpec", fn := fun _ => fun
  | [d1, d2] => { results := [.lit (.bool false)], args := [d1, d2] }
  | _ => none }
def MemoryMatchesSpecWrongFalsely : Prop := memoryMatchesSpecRow.holds Try.pinned (OpenSpec.ofChange memoryMatchesSpecWrong)

/-- 'custodylaw22.MemoryReadsLast': WHATEVER THE INPUT: true; the input reads as it did. -/
def memoryReadsLastSpec : ChangeSpec := { name := "memoryReadsLast", fn := fun _ => fun
  | [d1, d2, d3] => { results := [.lit (.bool true)], args := [d1, d2, d3] }
  | _ => none }
def memoryReadsLastRow : OpenClaim := { program := "ytgieiehpnjhkoaa", sum := "779064bb4dce55d7246d316a4d89d8598372be9f1289873c39018066ca53fb28", func := "custody/custodylaw22.MemoryReadsLast", spec := "memoryReadsLast", inPlace := ["internal/abi.NoEscape", "internal/bytealg.MakeNoZero"], unfollowed := true, recurses := true, apart := false }
def MemoryReadsLastSaid : Prop := memoryReadsLastRow.holds Try.pinned (OpenSpec.ofChange memoryReadsLastSpec)

/-- ITS FALSE NEIGHBOUR: 'it returns false'. Refute it at one input. -/
def memoryReadsLastWrong : ChangeSpec := { name := "memoryReadsLast", fn := fun _ => fun
  | [d1, d2, d3] => { results := [.lit (.bool false)], args := [d1, d2, d3] }
  | _ => none }
def MemoryReadsLastWrongFalsely : Prop := memoryReadsLastRow.holds Try.pinned (OpenSpec.ofChange memoryReadsLastWrong)

/-- 'custodylaw22.MemoryTears': WHATEVER THE INPUT: true; the input reads as it did. -/
def memoryTearsSpec : ChangeSpec := { name := "memoryTears", fn := fun _ => fun
  | [d1, d2, d3] => { results := [.lit (.bool true)], args := [d1, d2, d3] }
  | _ => none }
def memoryTearsRow : OpenClaim := { program := "ytgieiehpnjhkoaa", sum := "779064bb4dce55d7246d316a4d89d8598372be9f1289873c39018066ca53fb28", func := "custody/custodylaw22.MemoryTears", spec := "memoryTears", inPlace := ["internal/abi.NoEscape", "internal/bytealg.MakeNoZero"], unfollowed := true, recurses := true, apart := false }
def MemoryTearsSaid : Prop := memoryTearsRow.holds Try.pinned (OpenSpec.ofChange memoryTearsSpec)

/-- ITS FALSE NEIGHBOUR: 'it returns false'. Refute it at one input. -/
def memoryTearsWrong : ChangeSpec := { name := "memoryTears", fn := fun _ => fun
  | [d1, d2, d3] => { results := [.lit (.bool false)], args := [d1, d2, d3] }
  | _ => none }
def MemoryTearsWrongFalsely : Prop := memoryTearsRow.holds Try.pinned (OpenSpec.ofChange memoryTearsWrong)

/-- 'custodylaw22.MemoryWears': WHATEVER THE INPUT: true; the input reads as it did. -/
def memoryWearsSpec : ChangeSpec := { name := "memoryWears", fn := fun _ => fun
  | [d1, d2, d3, d4] => { results := [.lit (.bool true)], args := [d1, d2, d3, d4] }
  | _ => none }
def memoryWearsRow : OpenClaim := { program := "ytgieiehpnjhkoaa", sum := "779064bb4dce55d7246d316a4d89d8598372be9f1289873c39018066ca53fb28", func := "custody/custodylaw22.MemoryWears", spec := "memoryWears", inPlace := ["internal/abi.NoEscape", "internal/bytealg.MakeNoZero"], unfollowed := true, recurses := true, apart := false }
def MemoryWearsSaid : Prop := memoryWearsRow.holds Try.pinned (OpenSpec.ofChange memoryWearsSpec)

/-- ITS FALSE NEIGHBOUR: 'it returns false'. Refute it at one input. -/
def memoryWearsWrong : ChangeSpec := { name := "memoryWears", fn := fun _ => fun
  | [d1, d2, d3, d4] => { results := [.lit (.bool false)], args := [d1, d2, d3, d4] }
  | _ => none }
def MemoryWearsWrongFalsely : Prop := memoryWearsRow.holds Try.pinned (OpenSpec.ofChange memoryWearsWrong)

/-- 'custodylaw22.MemoryRollsBack': WHATEVER THE INPUT: true; the input reads as it did. -/
def memoryRollsBackSpec : ChangeSpec := { name := "memoryRollsBack", fn := fun _ => fun
  | [d1, d2, d3] => { results := [.lit (.bool true)], args := [d1, d2, d3] }
  | _ => none }
def memoryRollsBackRow : OpenClaim := { program := "ytgieiehpnjhkoaa", sum := "779064bb4dce55d7246d316a4d89d8598372be9f1289873c39018066ca53fb28", func := "custody/custodylaw22.MemoryRollsBack", spec := "memoryRollsBack", inPlace := ["internal/abi.NoEscape", "internal/bytealg.MakeNoZero"], unfollowed := true, recurses := true, apart := false }
def MemoryRollsBackSaid : Prop := memoryRollsBackRow.holds Try.pinned (OpenSpec.ofChange memoryRollsBackSpec)

/-- ITS FALSE NEIGHBOUR: 'it returns false'. Refute it at one input. -/
def memoryRollsBackWrong : ChangeSpec := { name := "memoryRollsBack", fn := fun _ => fun
  | [d1, d2, d3] => { results := [.lit (.bool false)], args := [d1, d2, d3] }
  | _ => none }
def MemoryRollsBackWrongFalsely : Prop := memoryRollsBackRow.holds Try.pinned (OpenSpec.ofChange memoryRollsBackWrong)

/-- 'custodylaw22.MemoryClones': WHATEVER THE INPUT: true; the input reads as it did. -/
def memoryClonesSpec : ChangeSpec := { name := "memoryClones", fn := fun _ => fun
  | [d1, d2, d3, d4] => { results := [.lit (.bool true)], args := [d1, d2, d3, d4] }
  | _ => none }
def memoryClonesRow : OpenClaim := { program := "ytgieiehpnjhkoaa", sum := "779064bb4dce55d7246d316a4d89d8598372be9f1289873c39018066ca53fb28", func := "custody/custodylaw22.MemoryClones", spec := "memoryClones", inPlace := ["internal/abi.NoEscape", "internal/bytealg.MakeNoZero"], unfollowed := true, recurses := true, apart := false }
def MemoryClonesSaid : Prop := memoryClonesRow.holds Try.pinned (OpenSpec.ofChange memoryClonesSpec)

/-- ITS FALSE NEIGHBOUR: 'it returns false'. Refute it at one input. -/
def memoryClonesWrong : ChangeSpec := { name := "memoryClones", fn := fun _ => fun
  | [d1, d2, d3, d4] => { results := [.lit (.bool false)], args := [d1, d2, d3, d4] }
  | _ => none }
def MemoryClonesWrongFalsely : Prop := memoryClonesRow.holds Try.pinned (OpenSpec.ofChange memoryClonesWrong)

/- THE SECOND FORM. 'bulk': how many values and letters a reading holds, each counted each time it is reached (what is shared counts as often as it is met; a slice's spare places count too). A statement '..UptoSaid' is the law's where the arguments, and the package variables that the reading takes, are together of bulk at most 1048576: NARROWER than '..Said'. Prove '..Said' where nothing that the law and all that it calls make is longer than what came in: it says more and counts as full. Else prove '..UptoSaid'. A law counts once. -/
mutual
def uptoBulk {H : Type} : DataW H → Nat
  | .lit (.string bytes) => bytes.length + 1
  | .lit _ => 1
  | .nil => 1
  | .ptr d => uptoBulk d + 1
  | .slice elems spare => uptoBulkAll elems + uptoBulkAll spare + 1
  | .agg parts => uptoBulkAll parts + 1
  | .iface _ d => uptoBulk d + 1
  | .map entries => uptoBulkEntries entries + 1
  | .held _ => 1
def uptoBulkAll {H : Type} : List (DataW H) → Nat
  | [] => 0
  | d :: r => uptoBulk d + uptoBulkAll r
def uptoBulkEntries {H : Type} : List (Lit × DataW H) → Nat
  | [] => 0
  | x :: r => uptoBulkEntry x + uptoBulkEntries r
def uptoBulkEntry {H : Type} : Lit × DataW H → Nat
  | (.string bytes, d) => bytes.length + uptoBulk d + 1
  | (_, d) => uptoBulk d + 1
 end
def uptoSmall : (H : Type) → List (DataW H) → Bool := fun _ ds => decide (uptoBulkAll ds ≤ 1048576)
def OpenSpec.upto (s : _root_.Go.ChangeSpec) : _root_.Go.OpenSpec := { _root_.Go.OpenSpec.ofChange s with cond := some uptoSmall }

/-- 'custodylaw22.MemoryMatchesSpec', WHERE WHAT IT READS IS OF BULK AT MOST 1048576: true; the input reads as it did. -/
def memoryMatchesSpecUptoRow : OpenClaim := { program := "ytgieiehpnjhkoaa", sum := "779064bb4dce55d7246d316a4d89d8598372be9f1289873c39018066ca53fb28", func := "custody/custodylaw22.MemoryMatchesSpec", spec := "memoryMatchesSpec", inPlace := ["internal/abi.NoEscape", "internal/bytealg.MakeNoZero"], unfollowed := true, recurses := true, apart := false, narrowed := true }
def MemoryMatchesSpecUptoSaid : Prop := memoryMatchesSpecUptoRow.holds Try.pinned (OpenSpec.upto memoryMatchesSpecSpec)

/-- 'custodylaw22.MemoryReadsLast', WHERE WHAT IT READS IS OF BULK AT MOST 1048576: true; the input reads as it did. -/
def memoryReadsLastUptoRow : OpenClaim := { program := "ytgieiehpnjhkoaa", sum := "779064bb4dce55d7246d316a4d89d8598372be9f1289873c39018066ca53fb28", func := "custody/custodylaw22.MemoryReadsLast", spec := "memoryReadsLast", inPlace := ["internal/abi.NoEscape", "internal/bytealg.MakeNoZero"], unfollowed := true, recurses := true, apart := false, narrowed := true }
def MemoryReadsLastUptoSaid : Prop := memoryReadsLastUptoRow.holds Try.pinned (OpenSpec.upto memoryReadsLastSpec)

/-- 'custodylaw22.MemoryTears', WHERE WHAT IT READS IS OF BULK AT MOST 1048576: true; the input reads as it did. -/
def memoryTearsUptoRow : OpenClaim := { program := "ytgieiehpnjhkoaa", sum := "779064bb4dce55d7246d316a4d89d8598372be9f1289873c39018066ca53fb28", func := "custody/custodylaw22.MemoryTears", spec := "memoryTears", inPlace := ["internal/abi.NoEscape", "internal/bytealg.MakeNoZero"], unfollowed := true, recurses := true, apart := false, narrowed := true }
def MemoryTearsUptoSaid : Prop := memoryTearsUptoRow.holds Try.pinned (OpenSpec.upto memoryTearsSpec)

/-- 'custodylaw22.MemoryWears', WHERE WHAT IT READS IS OF BULK AT MOST 1048576: true; the input reads as it did. -/
def memoryWearsUptoRow : OpenClaim := { program := "ytgieiehpnjhkoaa", sum := "779064bb4dce55d7246d316a4d89d8598372be9f1289873c39018066ca53fb28", func := "custody/custodylaw22.MemoryWears", spec := "memoryWears", inPlace := ["internal/abi.NoEscape", "internal/bytealg.MakeNoZero"], unfollowed := true, recurses := true, apart := false, narrowed := true }
def MemoryWearsUptoSaid : Prop := memoryWearsUptoRow.holds Try.pinned (OpenSpec.upto memoryWearsSpec)

/-- 'custodylaw22.MemoryRollsBack', WHERE WHAT IT READS IS OF BULK AT MOST 1048576: true; the input reads as it did. -/
def memoryRollsBackUptoRow : OpenClaim := { program := "ytgieiehpnjhkoaa", sum := "779064bb4dce55d7246d316a4d89d8598372be9f1289873c39018066ca53fb28", func := "custody/custodylaw22.MemoryRollsBack", spec := "memoryRollsBack", inPlace := ["internal/abi.NoEscape", "internal/bytealg.MakeNoZero"], unfollowed := true, recurses := true, apart := false, narrowed := true }
def MemoryRollsBackUptoSaid : Prop := memoryRollsBackUptoRow.holds Try.pinned (OpenSpec.upto memoryRollsBackSpec)

/-- 'custodylaw22.MemoryClones', WHERE WHAT IT READS IS OF BULK AT MOST 1048576: true; the input reads as it did. -/
def memoryClonesUptoRow : OpenClaim := { program := "ytgieiehpnjhkoaa", sum := "779064bb4dce55d7246d316a4d89d8598372be9f1289873c39018066ca53fb28", func := "custody/custodylaw22.MemoryClones", spec := "memoryClones", inPlace := ["internal/abi.NoEscape", "internal/bytealg.MakeNoZero"], unfollowed := true, recurses := true, apart := false, narrowed := true }
def MemoryClonesUptoSaid : Prop := memoryClonesUptoRow.holds Try.pinned (OpenSpec.upto memoryClonesSpec)

end Rows
end Go.Proofs.Ytgieiehpnjhkoaa
