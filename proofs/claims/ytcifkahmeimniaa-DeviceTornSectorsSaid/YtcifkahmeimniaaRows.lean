/-
  No cell of these rows narrows 'for every input' (looked for: loops, veiled, ifaces, maps, wideKeys, modest, calm, conditions, laid).
  DERIVED. THE GIVEN ROWS OF THIS SEAT. 5 by the template 'for every input the law returns true; each argument reads behind the call as it read before'; 0 by the template 'total and deterministic' (their statements: YtcifkahmeimniaaTotals.lean).
  GIVEN WITH THE SEED: the statements are not yours to turn. If you find one false, say at which input.
  Laid BY PROGRAM, IN A SANDBOX (cutbox-rows.mjs): the forced cells as the released guide's own fill.sh prints them over the translation b1e5229cc6e717db… (all of the seat's roots in one cut). By AI agents, Wed Nov 11 2026. No macro, syntax, notation, axiom, sorry.
-/
import Derived.Test.YtcifkahmeimniaaChecked
import GoSem.Claim
import GoSem.ClaimJoined
import GoSem.ClaimMapViews
import Derived.JoinedTies
import Derived.KernelRfl
namespace Go.Proofs.Ytcifkahmeimniaa
/- THE CELL 'sum', in the pinned program and in every row, IS THE sha256 OF THE DUMP (.gsa) THAT YtcifkahmeimniaaProg.lean LOADS. Nothing in Lean hashes anything: it is a label: what it is worth is what the hold of that sum in a sandbox is worth. -/
noncomputable def Try.pinned : Pinned := { name := "ytcifkahmeimniaa", sum := "b1e5229cc6e717dbfb78d490542c8617f51be1b9c5da355d804adfd2e6bfb9eb", checked := Try.checked }
namespace Rows
def none {H : Type} : Left H := { results := [], args := [] }

/-- 'custodylaw23.DeviceNeverGoesBack': WHATEVER THE INPUT: true; the input reads as it did. -/
def deviceNeverGoesBackSpec : ChangeSpec := { name := "deviceNeverGoesBack", fn := fun _ => fun
  | [d1, d2] => { results := [.lit (.bool true)], args := [d1, d2] }
  | _ => none }
def deviceNeverGoesBackRow : OpenClaim := { program := "ytcifkahmeimniaa", sum := "b1e5229cc6e717dbfb78d490542c8617f51be1b9c5da355d804adfd2e6bfb9eb", func := "custody/custodylaw23.DeviceNeverGoesBack", spec := "deviceNeverGoesBack", inPlace := ["internal/abi.NoEscape", "internal/bytealg.MakeNoZero"], unfollowed := true, recurses := true, apart := false }
def DeviceNeverGoesBackSaid : Prop := deviceNeverGoesBackRow.holds Try.pinned (OpenSpec.ofChange deviceNeverGoesBackSpec)

/-- ITS FALSE NEIGHBOUR: 'it returns false'. Refute it at one input. -/
def deviceNeverGoesBackWrong : ChangeSpec := { name := "deviceNeverGoesBack", fn := fun _ => fun
  | [d1, d2] => { results := [.lit (.bool false)], args := [d1, d2] }
  | _ => none }
def DeviceNeverGoesBackWrongFalsely : Prop := deviceNeverGoesBackRow.holds Try.pinned (OpenSpec.ofChange deviceNeverGoesBackWrong)

/-- 'custodylaw23.DeviceSlotsSurvive': WHATEVER THE INPUT: true; the input reads as it did. -/
def deviceSlotsSurviveSpec : ChangeSpec := { name := "deviceSlotsSurvive", fn := fun _ => fun
  | [d1, d2] => { results := [.lit (.bool true)], args := [d1, d2] }
  | _ => none }
def deviceSlotsSurviveRow : OpenClaim := { program := "ytcifkahmeimniaa", sum := "b1e5229cc6e717dbfb78d490542c8617f51be1b9c5da355d804adfd2e6bfb9eb", func := "custody/custodylaw23.DeviceSlotsSurvive", spec := "deviceSlotsSurvive", inPlace := ["internal/abi.NoEscape", "internal/bytealg.MakeNoZero"], unfollowed := true, recurses := true, apart := false }
def DeviceSlotsSurviveSaid : Prop := deviceSlotsSurviveRow.holds Try.pinned (OpenSpec.ofChange deviceSlotsSurviveSpec)

/-- ITS FALSE NEIGHBOUR: 'it returns false'. Refute it at one input. -/
def deviceSlotsSurviveWrong : ChangeSpec := { name := "deviceSlotsSurvive", fn := fun _ => fun
  | [d1, d2] => { results := [.lit (.bool false)], args := [d1, d2] }
  | _ => none }
def DeviceSlotsSurviveWrongFalsely : Prop := deviceSlotsSurviveRow.holds Try.pinned (OpenSpec.ofChange deviceSlotsSurviveWrong)

/-- 'custodylaw23.DeviceTornSectors': WHATEVER THE INPUT: true; the input reads as it did. -/
def deviceTornSectorsSpec : ChangeSpec := { name := "deviceTornSectors", fn := fun _ => fun
  | [d1, d2, d3] => { results := [.lit (.bool true)], args := [d1, d2, d3] }
  | _ => none }
def deviceTornSectorsRow : OpenClaim := { program := "ytcifkahmeimniaa", sum := "b1e5229cc6e717dbfb78d490542c8617f51be1b9c5da355d804adfd2e6bfb9eb", func := "custody/custodylaw23.DeviceTornSectors", spec := "deviceTornSectors", inPlace := ["internal/abi.NoEscape", "internal/bytealg.MakeNoZero"], unfollowed := true, recurses := true, apart := false }
def DeviceTornSectorsSaid : Prop := deviceTornSectorsRow.holds Try.pinned (OpenSpec.ofChange deviceTornSectorsSpec)

/-- ITS FALSE NEIGHBOUR: 'it returns false'. Refute it at one input. -/
def deviceTornSectorsWrong : ChangeSpec := { name := "deviceTornSectors", fn := fun _ => fun
  | [d1, d2, d3] => { results := [.lit (.bool false)], args := [d1, d2, d3] }
  | _ => none }
def DeviceTornSectorsWrongFalsely : Prop := deviceTornSectorsRow.holds Try.pinned (OpenSpec.ofChange deviceTornSectorsWrong)

/-- 'custodylaw23.DeviceTripCounts': WHATEVER THE INPUT: true; the input reads as it did. -/
def deviceTripCountsSpec : ChangeSpec := { name := "deviceTripCounts", fn := fun _ => fun
  | [d1, d2, d3] => { results := [.lit (.bool true)], args := [d1, d2, d3] }
  | _ => none }
def deviceTripCountsRow : OpenClaim := { program := "ytcifkahmeimniaa", sum := "b1e5229cc6e717dbfb78d490542c8617f51be1b9c5da355d804adfd2e6bfb9eb", func := "custody/custodylaw23.DeviceTripCounts", spec := "deviceTripCounts", inPlace := ["internal/abi.NoEscape", "internal/bytealg.MakeNoZero"], unfollowed := true, recurses := true, apart := false }
def DeviceTripCountsSaid : Prop := deviceTripCountsRow.holds Try.pinned (OpenSpec.ofChange deviceTripCountsSpec)

/-- ITS FALSE NEIGHBOUR: 'it returns false'. Refute it at one input. -/
def deviceTripCountsWrong : ChangeSpec := { name := "deviceTripCounts", fn := fun _ => fun
  | [d1, d2, d3] => { results := [.lit (.bool false)], args := [d1, d2, d3] }
  | _ => none }
def DeviceTripCountsWrongFalsely : Prop := deviceTripCountsRow.holds Try.pinned (OpenSpec.ofChange deviceTripCountsWrong)

/-- 'custodylaw23.DeviceRestoreIsLocal': WHATEVER THE INPUT: true; the input reads as it did. -/
def deviceRestoreIsLocalSpec : ChangeSpec := { name := "deviceRestoreIsLocal", fn := fun _ => fun
  | [d1, d2, d3] => { results := [.lit (.bool true)], args := [d1, d2, d3] }
  | _ => none }
def deviceRestoreIsLocalRow : OpenClaim := { program := "ytcifkahmeimniaa", sum := "b1e5229cc6e717dbfb78d490542c8617f51be1b9c5da355d804adfd2e6bfb9eb", func := "custody/custodylaw23.DeviceRestoreIsLocal", spec := "deviceRestoreIsLocal", inPlace := ["internal/abi.NoEscape", "internal/bytealg.MakeNoZero"], unfollowed := true, recurses := true, apart := false }
def DeviceRestoreIsLocalSaid : Prop := deviceRestoreIsLocalRow.holds Try.pinned (OpenSpec.ofChange deviceRestoreIsLocalSpec)

/-- ITS FALSE NEIGHBOUR: 'it returns false'. Refute it at one input. -/
def deviceRestoreIsLocalWrong : ChangeSpec := { name := "deviceRestoreIsLocal", fn := fun _ => fun
  | [d1, d2, d3] => { results := [.lit (.bool false)], args := [d1, d2, d3] }
  | _ => none }
def DeviceRestoreIsLocalWrongFalsely : Prop := deviceRestoreIsLocalRow.holds Try.pinned (OpenSpec.ofChange deviceRestoreIsLocalWrong)

/- THE SECOND FORM. 'bulk': how many values and letters a reading holds, each counted each time it is reached (what is shared counts as often as it is met; a slice's spare places count too). A statement '..UptoSaid' is the law's where the arguments, and the package variables that the reading takes, are together of bulk at most 1048576: NARROWER than '..Said'. Prove '..Said' where nothing that the law and all that it calls make is longer than what came in: it says more and counts as full. Else prove '..UptoSaid'. A law counts once. -/
mutual
def uptoBulk {H : Type} : DataW H → Nat
  | .lit (.string bytes) => bytes.length + 1
  | .lit _ => 1
  | .nil => 1
  | .ptr d => uptoBulk d + 1
  | .slice elems spare => uptoBulkAll elems + uptoBulkAll spare + 1
  | .agg parts => uptoBulkAll parts + 1
  | .iface _ d => uptoBulk d + 1
  | .map entries => uptoBulkEntries entries + 1
  | .held _ => 1
def uptoBulkAll {H : Type} : List (DataW H) → Nat
  | [] => 0
  | d :: r => uptoBulk d + uptoBulkAll r
def uptoBulkEntries {H : Type} : List (Lit × DataW H) → Nat
  | [] => 0
  | x :: r => uptoBulkEntry x + uptoBulkEntries r
def uptoBulkEntry {H : Type} : Lit × DataW H → Nat
  | (.string bytes, d) => bytes.length + uptoBulk d + 1
  | (_, d) => uptoBulk d + 1
 end
def uptoSmall : (H : Type) → List (DataW H) → Bool := fun _ ds => decide (uptoBulkAll ds ≤ 1048576)
def OpenSpec.upto (s : _root_.Go.ChangeSpec) : _root_.Go.OpenSpec := { _root_.Go.OpenSpec.ofChange s with cond := some uptoSmall }

/-- 'custodylaw23.DeviceNeverGoesBack', WHERE WHAT IT READS IS OF BULK AT MOST 1048576: true; the input reads as it did. -/
def deviceNeverGoesBackUptoRow : OpenClaim := { program := "ytcifkahmeimniaa", sum := "b1e5229cc6e717dbfb78d490542c8617f51be1b9c5da355d804adfd2e6bfb9eb", func := "custody/custodylaw23.DeviceNeverGoesBack", spec := "deviceNeverGoesBack", inPlace := ["internal/abi.NoEscape", "internal/bytealg.MakeNoZero"], unfollowed := true, recurses := true, apart := false, narrowed := true }
def DeviceNeverGoesBackUptoSaid : Prop := deviceNeverGoesBackUptoRow.holds Try.pinned (OpenSpec.upto deviceNeverGoesBackSpec)

/-- 'custodylaw23.DeviceSlotsSurvive', WHERE WHAT IT READS IS OF BULK AT MOST 1048576: true; the input reads as it did. -/
def deviceSlotsSurviveUptoRow : OpenClaim := { program := "ytcifkahmeimniaa", sum := "b1e5229cc6e717dbfb78d490542c8617f51be1b9c5da355d804adfd2e6bfb9eb", func := "custody/custodylaw23.DeviceSlotsSurvive", spec := "deviceSlotsSurvive", inPlace := ["internal/abi.NoEscape", "internal/bytealg.MakeNoZero"], unfollowed := true, recurses := true, apart := false, narrowed := true }
def DeviceSlotsSurviveUptoSaid : Prop := deviceSlotsSurviveUptoRow.holds Try.pinned (OpenSpec.upto deviceSlotsSurviveSpec)

/-- 'custodylaw23.DeviceTornSectors', WHERE WHAT IT READS IS OF BULK AT MOST 1048576: true; the input reads as it did. -/
def deviceTornSectorsUptoRow : OpenClaim := { program := "ytcifkahmeimniaa", sum := "b1e5229cc6e717dbfb78d490542c8617f51be1b9c5da355d804adfd2e6bfb9eb", func := "custody/custodylaw23.DeviceTornSectors", spec := "deviceTornSectors", inPlace := ["internal/abi.NoEscape", "internal/bytealg.MakeNoZero"], unfollowed := true, recurses := true, apart := false, narrowed := true }
def DeviceTornSectorsUptoSaid : Prop := deviceTornSectorsUptoRow.holds Try.pinned (OpenSpec.upto deviceTornSectorsSpec)

/-- 'custodylaw23.DeviceTripCounts', WHERE WHAT IT READS IS OF BULK AT MOST 1048576: true; the input reads as it did. -/
def deviceTripCountsUptoRow : OpenClaim := { program := "ytcifkahmeimniaa", sum := "b1e5229cc6e717dbfb78d490542c8617f51be1b9c5da355d804adfd2e6bfb9eb", func := "custody/custodylaw23.DeviceTripCounts", spec := "deviceTripCounts", inPlace := ["internal/abi.NoEscape", "internal/bytealg.MakeNoZero"], unfollowed := true, recurses := true, apart := false, narrowed := true }
def DeviceTripCountsUptoSaid : Prop := deviceTripCountsUptoRow.holds Try.pinned (OpenSpec.upto deviceTripCountsSpec)

/-- 'custodylaw23.DeviceRestoreIsLocal', WHERE WHAT IT READS IS OF BULK AT MOST 1048576: true; the input reads as it did. -/
def deviceRestoreIsLocalUptoRow : OpenClaim := { program := "ytcifkahmeimniaa", sum := "b1e5229cc6e717dbfb78d490542c8617f51be1b9c5da355d804adfd2e6bfb9eb", func := "custody/custodylaw23.DeviceRestoreIsLocal", spec := "deviceRestoreIsLocal", inPlace := ["internal/abi.NoEscape", "internal/bytealg.MakeNoZero"], unfollowed := true, recurses := true, apart := false, narrowed := true }
def DeviceRestoreIsLocalUptoSaid : Prop := deviceRestoreIsLocalUptoRow.holds Try.pinned (OpenSpec.upto deviceRestoreIsLocalSpec)

end Rows
end Go.Proofs.Ytcifkahmeimniaa
