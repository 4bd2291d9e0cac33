/-
  The walks of layer 24 (sector): zero bytes made by the call.
-/
import Derived.Test.YtcifkahmeimniabDoorSecW8
import Derived.Laws.OwnMore
namespace Go.Proofs.YtcifkahmeimniabDoor
open Go.RowKit Go.Shelf

theorem bel_trans {a W w' : World} (h : Below a.heap.size a W) (k : Below W.heap.size W w') : Below a.heap.size a w' := h.trans (k.mono h.size)
/-- Block b holds m zero bytes. -/
def Zat (m : Nat) (w : World) (b : Nat) : Prop := Blk w b 5 (Array.replicate m (Value.int .u8 0))
theorem zat_new (m : Nat) (w : World) : Zat m (w.alloc (.cells (Array.replicate m (Value.int .u8 0)) 5)) w.heap.size := Blk.new _ _ _
theorem zat_newd (m : Nat) (w : World) : Zat m (w.alloc (.cells (Array.replicate m (Value.int .u8 0)) 5)).drew w.heap.size := (Blk.new _ _ _).drew
theorem zat_below {m : Nat} {w w' : World} {b : Nat} (h : Zat m w b) (hB : Below w.heap.size w w') : Zat m w' b := Blk.below h hB (Blk.lt h)
theorem zat_conv {m : Nat} {w : World} {b : Nat} (h : Zat m w b) : (convert 42 9 (.slice (some ⟨b, 0, none⟩) m m)).run Tryd.prog w = .ok (.string ⟨(List.replicate m (0 : UInt8)).toArray⟩) w := by
  have hc := run_convert_bytes_back (P := Tryd.prog) w 42 9 5 ⟨b, 0, none⟩ m (List.replicate m (0 : UInt8)) Tryd.underlying42 Tryd.underlying5 Tryd.underlying9 (fun j hj => by
    rw [Addr.add_lit, Nat.zero_add, Blk.cell h]
    simp at hj ⊢
    rw [Array.getElem?_replicate, if_pos hj])
  rw [List.length_replicate] at hc
  exact hc
theorem make_zero (m : Nat) (hm : m ≤ 1000) (w : World) : (Instr.makeSlice 42 (.int .i64 m) (.int .i64 m)).run Tryd.prog w = .ok (.slice (some ⟨w.heap.size, 0, none⟩) m m) (w.alloc (.cells (Array.replicate m (Value.int .u8 0)) 5)) := by
  obtain ⟨i0, hi, hz0, hz1, hz2⟩ := info_parts infoU8
  have h := run_make (P := Tryd.prog) w 42 5 i0 (.int .u8 0) Tryd.underlying42 hi hz0 .i64 .i64 m m (by omega) (Int.le_refl _) (by rw [hz2]; omega) (by omega)
  rw [hz1] at h
  have e : madeCells (Value.int .u8 0).cells ((m : Int).toNat * 1) = (Array.replicate m (Value.int .u8 0)) := by
    apply Array.ext'
    have := toList_madeCells_one (Value.int .u8 0) m
    simpa [Value.cells] using this
  rw [e] at h
  simpa using h
end Go.Proofs.YtcifkahmeimniabDoor
