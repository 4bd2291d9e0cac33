/-
  Layer 23 (device): what Store, Burn and Raise do in their steps.
  Layer 23 (device): Store. (Written by a small program.)
-/
import Derived.Test.YtgdpgiegiacepaaDoorDevW6
import Derived.Laws.OwnMore
import Derived.StillTailTactics
namespace Go.Proofs.YtgdpgiegiacepaaDoor
open Go.RowKit Go.Shelf
attribute [local go_sem] Oper.semAt_some

section
variable {w : World} {d b g sb sc fb fc : Nat} {D : Dev}
theorem row_blk {e : TypeId} {xs : List Value} {n c r : Nat} {base size : Nat} (h : w.ownsRow base e size (.slice (some ⟨r, 0, none⟩) n c) n xs) : ∃ cur, Blk w r e cur := by
  rcases h.2 with ⟨h0, _⟩ | ⟨g', cap, cur, h0, _, hg, _⟩
  · cases h0
  · cases h0
    exact ⟨cur, hg⟩
theorem strCells_set (l : List ByteArray) (i : Nat) (t : ByteArray) : strCells (l.set i t) = (strCells l).set i (.string t) := by simp [strCells, List.map_set]
theorem boolCells_set (l : List Bool) (i : Nat) (t : Bool) : boolCells (l.set i t) = (boolCells l).set i (.bool t) := by simp [boolCells, List.map_set]
/-- A slot is set. -/
theorem IsDev.slotSet (h : IsDev w d b g sb sc fb fc D) (i : Nat) (t : ByteArray) : IsDev (w.setCell ⟨sb, i, none⟩ (.string t)) d b g sb sc fb fc { D with slots := D.slots.set i t } ∧ w.grownBy (w.setCell ⟨sb, i, none⟩ (.string t)) (some sb) := by
  obtain ⟨cap, cur, hbb, hgb, _⟩ := h.mem.body
  obtain ⟨fcur, hfb⟩ := row_blk h.frow
  obtain ⟨k1, k2⟩ := h.srow.stored i (.string t)
  refine ⟨⟨?_, h.mem.grown k2 (fun e => own_blk_ne h.srow hbb (by decide) (by rw [e]; rfl)) (fun e => own_blk_ne h.srow hgb (by decide) (by rw [e]; rfl)), ?_, ?_⟩, k2⟩
  · have := h.blk.grown k2 (fun e => own_blk_ne h.srow h.blk (by decide) (by rw [e]; rfl))
    simpa using this
  · dsimp only
    rw [List.length_set, strCells_set]
    exact k1
  · exact h.frow.kept k2 (.inr (fun e => own_blk_ne h.srow hfb (by decide) (by have e' : some fb = some sb := e; rw [e']; rfl)))
/-- A fuse is set. -/
theorem IsDev.fuseSet (h : IsDev w d b g sb sc fb fc D) (i : Nat) (t : Bool) : IsDev (w.setCell ⟨fb, i, none⟩ (.bool t)) d b g sb sc fb fc { D with fuses := D.fuses.set i t } ∧ w.grownBy (w.setCell ⟨fb, i, none⟩ (.bool t)) (some fb) := by
  obtain ⟨cap, cur, hbb, hgb, _⟩ := h.mem.body
  obtain ⟨fcur, hfb⟩ := row_blk h.srow
  obtain ⟨k1, k2⟩ := h.frow.stored i (.bool t)
  refine ⟨⟨?_, h.mem.grown k2 (fun e => own_blk_ne h.frow hbb (by decide) (by rw [e]; rfl)) (fun e => own_blk_ne h.frow hgb (by decide) (by rw [e]; rfl)), ?_, ?_⟩, k2⟩
  · have := h.blk.grown k2 (fun e => own_blk_ne h.frow h.blk (by decide) (by rw [e]; rfl))
    simpa using this
  · exact h.srow.kept k2 (.inr (fun e => own_blk_ne h.frow hfb (by decide) (by have e' : some sb = some fb := e; rw [e']; rfl)))
  · dsimp only
    rw [List.length_set, boolCells_set]
    exact k1
theorem grown_drew_sb (w : World) (r : Option Nat) : w.grownBy w.drew r := grown_drewN w 1 r
end
end Go.Proofs.YtgdpgiegiacepaaDoor
namespace Go.Proofs.YtgdpgiegiacepaaDoor
open Go.RowKit Go.Shelf
attribute [local go_sem] Oper.semAt_some

section
variable {w : World} {d b g sb sc fb fc : Nat} {D : Dev}
end
end Go.Proofs.YtgdpgiegiacepaaDoor
