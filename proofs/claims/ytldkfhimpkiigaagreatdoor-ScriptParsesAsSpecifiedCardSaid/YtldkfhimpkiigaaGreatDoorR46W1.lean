/-
  Layer 46 (script), the specification: rows, Name, Kind.
-/
import Derived.Test.YtldkfhimpkiigaaGreatDoorScrW3
namespace Go.Proofs.YtldkfhimpkiigaaGreatDoor
open Go.RowKit ScrP
attribute [local go_sem] Oper.semAt_some

def rrowC : List Value := (krows.drop 1).flatMap fun r => [.string r.name, .int .i64 (r.least : Int), .int .i64 (r.most : Int), .bool r.text]
set_option maxRecDepth 100000 in
set_option maxHeartbeats 12800000 in
theorem rrows_any (w : World) : Calls Tryz.prog 33 #[] w fun e w' => e = .returned (.slice (some ⟨w.heap.size, 0, none⟩) 23 23) ∧ w' = w.alloc (.cells rrowC.toArray 64) := by
  go_enter Tryz.func33, Tryz.ntmps33
  go_wp2_with fail
  go_ret
  exact ⟨rfl, rfl⟩
end Go.Proofs.YtldkfhimpkiigaaGreatDoor
