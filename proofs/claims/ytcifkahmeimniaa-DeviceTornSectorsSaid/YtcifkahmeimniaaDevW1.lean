/-
  Layer 23 (device): a device in memory; the methods that only look.
-/
import Derived.Test.YtcifkahmeimniaaDevP1
namespace Go.Proofs.Ytcifkahmeimniaa
open Go.RowKit Go.Shelf
attribute [local go_sem] Oper.semAt_some

def boolCells (l : List Bool) : List Value := l.map Value.bool

/-- A device: block d; its memory behind b and g; its slots and fuses. -/
structure IsDev (w : World) (d b g sb sc fb fc : Nat) (D : Dev) : Prop where
  blk : Blk w d 64 #[.slice (some ⟨sb, 0, none⟩) D.slots.length sc, .slice (some ⟨fb, 0, none⟩) D.fuses.length fc, .int .i64 D.counter, .int .i64 D.clock, .pointer (some ⟨b, 0, none⟩), .bool D.down, .int .i64 D.left]
  mem : PMem w b g D.M
  srow : w.ownsRow 0 9 1 (.slice (some ⟨sb, 0, none⟩) D.slots.length sc) D.slots.length (strCells D.slots)
  frow : w.ownsRow 0 4 1 (.slice (some ⟨fb, 0, none⟩) D.fuses.length fc) D.fuses.length (boolCells D.fuses)

section
variable {w : World} {d b g sb sc fb fc : Nat} {D : Dev}
theorem IsDev.cells (h : IsDev w d b g sb sc fb fc D) : w.cell? ⟨d, 0, none⟩ = some (.slice (some ⟨sb, 0, none⟩) D.slots.length sc) ∧ w.cell? ⟨d, 1, none⟩ = some (.slice (some ⟨fb, 0, none⟩) D.fuses.length fc) ∧ w.cell? ⟨d, 2, none⟩ = some (.int .i64 D.counter) ∧ w.cell? ⟨d, 3, none⟩ = some (.int .i64 D.clock) ∧
    w.cell? ⟨d, 4, none⟩ = some (.pointer (some ⟨b, 0, none⟩)) ∧ w.cell? ⟨d, 5, none⟩ = some (.bool D.down) ∧ w.cell? ⟨d, 6, none⟩ = some (.int .i64 D.left) :=
  ⟨h.blk.cell 0, h.blk.cell 1, h.blk.cell 2, h.blk.cell 3, h.blk.cell 4, h.blk.cell 5, h.blk.cell 6⟩

set_option maxRecDepth 100000 in
theorem Up_any (h : IsDev w d b g sb sc fb fc D) : Calls Try.prog 20 #[.pointer (some ⟨d, 0, none⟩)] w fun e w' => e = .returned (.bool (!D.down)) ∧ w = w' := by
  obtain ⟨c0, c1, c2, c3, c4, c5, c6⟩ := h.cells
  go_enter Try.func20, Try.ntmps20
  go_wp2_with fail
  go_ret
  exact ⟨rfl, rfl⟩
set_option maxRecDepth 100000 in
theorem Counter_any (h : IsDev w d b g sb sc fb fc D) : Calls Try.prog 11 #[.pointer (some ⟨d, 0, none⟩)] w fun e w' => e = .returned (.int .i64 D.counter) ∧ w = w' := by
  obtain ⟨c0, c1, c2, c3, c4, c5, c6⟩ := h.cells
  go_enter Try.func11, Try.ntmps11
  go_wp2_with fail
  go_ret
  exact ⟨rfl, rfl⟩
set_option maxRecDepth 100000 in
theorem Now_any (h : IsDev w d b g sb sc fb fc D) : Calls Try.prog 12 #[.pointer (some ⟨d, 0, none⟩)] w fun e w' => e = .returned (.int .i64 D.clock) ∧ w = w' := by
  obtain ⟨c0, c1, c2, c3, c4, c5, c6⟩ := h.cells
  go_enter Try.func12, Try.ntmps12
  go_wp2_with fail
  go_ret
  exact ⟨rfl, rfl⟩
set_option maxRecDepth 100000 in
theorem Sectors_any (h : IsDev w d b g sb sc fb fc D) : Calls Try.prog 30 #[.pointer (some ⟨d, 0, none⟩)] w fun e w' => e = .returned (.int .i64 D.M.length) ∧ w = w' := by
  obtain ⟨c0, c1, c2, c3, c4, c5, c6⟩ := h.cells
  have HL := Lib.hid (len_any h.mem)
  go_enter Try.func30, Try.ntmps30
  go_wp2_with (first | (go_at_call 49; refine HL.out.mono ?_; rintro e w1 ⟨rfl, rfl⟩))
  go_ret
  exact ⟨rfl, rfl⟩
set_option maxRecDepth 100000 in
theorem valid_any (w : World) (x : Bool) : Calls Try.prog 45 #[.bool x] w fun e w' => e = .returned (.int .i64 (if x = true then 0 else 1)) ∧ w = w' := by
  cases x with
  | true =>
    go_enter Try.func45, Try.ntmps45
    go_wp2_with fail
    go_ret
    exact ⟨rfl, rfl⟩
  | false =>
    go_enter Try.func45, Try.ntmps45
    go_wp2_with fail
    go_ret
    exact ⟨rfl, rfl⟩
end
end Go.Proofs.Ytcifkahmeimniaa
