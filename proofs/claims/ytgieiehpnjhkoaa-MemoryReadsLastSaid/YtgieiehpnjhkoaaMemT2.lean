/-
  Layer 22 (memory): the text of an operation.
-/
import Derived.Test.YtgieiehpnjhkoaaMemT1
namespace Go.Proofs.Ytgieiehpnjhkoaa
open Go.RowKit Go.Shelf
attribute [local go_sem] Oper.semAt_some

/-- How many bytes an operation's text has. -/
def textLen (size : Int) : Nat := (max 0 (min size 100)).toNat
/-- An operation's text. -/
def textOf (fill : Nat) (size : Int) : ByteArray := ⟨(List.replicate (textLen size) (UInt8.ofNat fill)).toArray⟩

theorem infoU8 : (Try.prog.info? 5).map (fun i => (i.zero, i.size, i.bytes)) = some (some (.int .u8 0), 1, 1) := by kernel_rfl

set_option maxRecDepth 100000 in
set_option maxHeartbeats 4000000 in
theorem Text_any (w : World) (kind i size : Int) (fill : Nat) (hfill : fill < 256) (v : Value) (hv : ∃ A n c, v = .slice A n c) :
    Calls Try.prog 16 #[.agg #[.int .i64 kind, .int .i64 i, .int .u8 fill, .int .i64 size, v]] w fun e w' => e = .returned (.string (textOf fill size)) ∧ Below w.heap.size w w' := by
  obtain ⟨A, n, c, rfl⟩ := hv
  obtain ⟨N, hN⟩ : ∃ N, textLen size = N := ⟨_, rfl⟩
  have hNc : max 0 (min size 100) = (N : Int) := by rw [← hN]; unfold textLen; omega
  have hN1 : N ≤ 100 := by rw [← hN]; unfold textLen; omega
  have HT := Lib.hid (show textOf fill size = ⟨(List.replicate N (UInt8.ofNat fill)).toArray⟩ by unfold textOf; rw [hN])
  obtain ⟨i0, hi, hz0, hz1, hz2⟩ := info_parts infoU8
  have hbp := Blk.new w 37 #[.int .i64 kind, .int .i64 i, .int .u8 fill, .int .i64 size, .slice A n c]
  have hB0 : Below w.heap.size w (w.alloc (.cells #[.int .i64 kind, .int .i64 i, .int .u8 fill, .int .i64 size, .slice A n c] 37)) := (Below.refl _ w).alloc (Nat.le_refl _) _
  obtain ⟨w1, hmk, hr1, hg1⟩ := run_make_full (P := Try.prog) (w.alloc (.cells #[.int .i64 kind, .int .i64 i, .int .u8 fill, .int .i64 size, .slice A n c] 37)) w.heap.size 74 5 i0 _ 1 Try.underlying74 hi hz0 hz1 .i64 .i64 N (by rw [hz2]; omega) (by unfold maxLen; omega) (by simp)
  rw [← hNc, World.size_alloc] at hmk
  rw [World.size_alloc] at hr1
  obtain ⟨cur, hbk, hcs⟩ : ∃ cur, Blk w1 (w.heap.size + 1) 5 cur ∧ cur.size = N := by
    rcases hr1.2 with ⟨e, h0⟩ | ⟨g, cap', cur, e, _, hb, _, _, hsz, _⟩
    · cases e
    · cases e; exact ⟨cur, hb, by simpa using hsz⟩
  have hB1 : Below w.heap.size w w1 := hB0.grown hg1 (by simp) (fun k e => by cases e)
  have hop1 : Blk w1 w.heap.size 37 #[.int .i64 kind, .int .i64 i, .int .u8 fill, .int .i64 size, .slice A n c] := hbp.grown hg1 (by simp)
  have HNC := Lib.hid hNc
  clear hr1 hg1 hbp hB0 hNc hN
  rw [HT.out]
  clear HT
  go_enter Try.func16, Try.ntmps16
  go_wp2_with fail
  go_loopw [4] (fun a wr => ∃ (k : Nat) (cur : Array Value), k ≤ N ∧ a = .int .i64 k ∧ Blk wr w.heap.size 37 #[.int .i64 kind, .int .i64 i, .int .u8 fill, .int .i64 size, .slice A n c] ∧ Blk wr (w.heap.size + 1) 5 cur ∧ cur.size = N ∧ (∀ j, j < k → cur[j]? = some (.int .u8 fill)) ∧ Below w.heap.size w wr) (fun a _ => N - (intOf a).toNat)
  case atStart => exact ⟨0, cur, Nat.zero_le _, rfl, hop1, hbk, hcs, fun j hj => by omega, hB1⟩
  case round =>
    obtain ⟨k, cur, hk, rfl, hop, hbk, hcs, hall, hB⟩ := hrel
    clear hmk hB1 hop1
    have hcf : wr.cell? ⟨w.heap.size, 2, none⟩ = some (.int .u8 fill) := hop.cell 2
    have Hall := Lib.hid hall
    clear hall
    by_cases hkl : k < N
    · obtain ⟨u, hu⟩ : ∃ u, cur[k]? = some u := ⟨_, Array.getElem?_eq_getElem (by omega)⟩
      have hck : wr.cell? ⟨w.heap.size + 1, k, none⟩ = some u := (hbk.cell k).trans hu
      clear hu
      have hfk := hbk.frozen k
      have hb2 := hbk.set_ k (.int .u8 fill)
      have hop2 := hop.other (a := ⟨w.heap.size + 1, k, none⟩) (by show w.heap.size ≠ w.heap.size + 1; omega) (.int .u8 fill)
      have hB2 := hB.setCell (p := ⟨w.heap.size + 1, k, none⟩) (by show w.heap.size ≤ w.heap.size + 1; omega) (.int .u8 fill)
      have HCS := Lib.hid hcs
      clear hcs
      go_wp2_with fail
      go_roundw
      case rel =>
        refine ⟨k + 1, _, by omega, by go_num, hop2, hb2, by rw [Array.size_setIfInBounds]; exact HCS.out, fun j hj => ?_, hB2⟩
        rw [Array.getElem?_setIfInBounds]
        split
        · rename_i e; subst e; rw [if_pos (by rw [HCS.out]; omega)]
        · exact Hall.out j (by omega)
      case measure => simp [intOf]; omega
    · obtain rfl : k = N := by omega
      have hcv := run_convert_bytes_back (P := Try.prog) wr 74 9 5 ⟨w.heap.size + 1, 0, none⟩ k (List.replicate k (UInt8.ofNat fill)) Try.underlying74 Try.underlying5 Try.underlying9 (fun j hj => by
        have hj' : j < k := by simpa using hj
        have e : (⟨w.heap.size + 1, 0, none⟩ : Addr).add j = ⟨w.heap.size + 1, j, none⟩ := by simp [Addr.add]; intro e; exact e.symm
        rw [e, hbk.cell, Hall.out j hj', List.getElem_replicate]
        simp [Nat.mod_eq_of_lt hfill])
      rw [List.length_replicate] at hcv
      go_wp2_with fail
      go_ret
      exact ⟨rfl, hB⟩
end Go.Proofs.Ytgieiehpnjhkoaa
