/-
  Layer 23 (device): Burn. (Written by a small program.)
-/
import Derived.Test.YtgdpgiegiacepaaDoorG5
namespace Go.Proofs.YtgdpgiegiacepaaDoor
open Go.RowKit Go.Shelf
attribute [local go_sem] Oper.semAt_some

section
variable {w : World} {d b g sb sc fb fc : Nat} {D : Dev}
end
end Go.Proofs.YtgdpgiegiacepaaDoor
