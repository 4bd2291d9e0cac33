/-
  Layer 24 (sector): SectorMatchesSpec, the walk.
-/
import Derived.Test.YtcifkahmeimniabDoorSecW13
import Derived.Test.YtcifkahmeimniabDoorSecW9
namespace Go.Proofs.YtcifkahmeimniabDoor
open Go.RowKit Go.Shelf
attribute [local go_sem] Oper.semAt_some

theorem openE_form (s : ByteArray) : ∃ a b c t e, openE s = (partVal a b c t, e) := by
  unfold openE
  split
  · split
    · exact ⟨_, _, _, _, _, rfl⟩
    · exact ⟨_, _, _, _, _, rfl⟩
  · exact ⟨_, _, _, _, _, rfl⟩
section
variable {W : World}
set_option maxRecDepth 100000 in
set_option maxHeartbeats 4000000 in
theorem l24matches_far (number n : Int) (record s : ByteArray) (h : 9000 < record.size) :
    Calls Tryd.prog 3 #[.int .i64 number, .string record, .string s, .int .i64 n] W fun e w' => e = .returned (.bool true) ∧ Below W.heap.size W w' := by
  have hd : decide (9000 < (record.size : Int)) = true := decide_eq_true (by omega)
  clear h
  go_enter Tryd.func3, Tryd.ntmps3
  go_wp2_with (first | (go_at_call 9; refine (sanity_true _).mono ?_; rintro e w1 ⟨rfl, hB⟩))
  go_ret
  exact ⟨rfl, hB⟩
set_option maxRecDepth 100000 in
set_option maxHeartbeats 4000000 in
theorem l24matches_near (number n : Int) (record s : ByteArray) (h : record.size ≤ 9000) :
    Calls Tryd.prog 3 #[.int .i64 number, .string record, .string s, .int .i64 n] W fun e w' => e = .returned (.bool true) ∧ Below W.heap.size W w' := by
  have hd : decide (9000 < (record.size : Int)) = false := decide_eq_false (by omega)
  obtain ⟨oa, ob, oc, ot, oe, hE⟩ := openE_form s
  have HP := fun w => Lib.hid (pack_any w number record)
  have HR := fun w => Lib.hid (rpack_any w number record)
  obtain ⟨L, hL⟩ : ∃ L, packE number record = L := ⟨_, rfl⟩
  rw [hL] at HP HR
  obtain ⟨l, pe⟩ := L
  dsimp only at HP HR
  have HO := fun w => Lib.hid (open_at hE w)
  have HQ := fun w => Lib.hid (ropen_at hE w)
  clear h hL hE
  go_enter Tryd.func3, Tryd.ntmps3
  go_wp2_with (first
    | (go_at_call 10; refine (HP _).out.mono ?_; rintro e w1 ⟨v1, rfl, hT1⟩; have hS1 := strsAt_of_row hT1.1; have hB1 := hT1.2.2)
    | (go_at_call 11; refine (HR _).out.mono ?_; rintro e w2 ⟨v2, rfl, hT2⟩; have hS2 := strsAt_of_row hT2.1; have hB2 := hT2.2.2)
    | (go_at_call 12; refine (HO _).out.mono ?_; rintro e w3 ⟨rfl, hB3⟩; have b3 := Blk.new w3 28 #[.int .i64 oa, .int .i64 ob, .int .i64 oc, .string ot])
    | (go_at_call 13; refine (HQ _).out.mono ?_; rintro e w4 ⟨rfl, hB4⟩; have b4 := Blk.new w4 28 #[.int .i64 oa, .int .i64 ob, .int .i64 oc, .string ot]; have b34 := b3.below hB4 b3.lt)
    | (go_at_call 9; refine (sanity_true _).mono ?_; rintro e w5 ⟨rfl, hB5⟩; have b45 := b4.below hB5 b4.lt; have b35 := (b34.alloc (.cells #[.int .i64 oa, .int .i64 ob, .int .i64 oc, .string ot] 28)).below hB5 (b34.alloc _).lt; have k24 := bel_trans (below_grow hB3 (.cells #[.int .i64 oa, .int .i64 ob, .int .i64 oc, .string ot] 28)) hB4; have k25 := bel_trans (below_grow k24 (.cells #[.int .i64 oa, .int .i64 ob, .int .i64 oc, .string ot] 28)) hB5; have hS25 := hS2.below k25 (Nat.le_refl _); have hS15 := (hS1.below hB2 (Nat.le_refl _)).below k25 (Nat.le_refl _); have x0 := b35.cell 0; have x1 := b35.cell 1; have x2 := b35.cell 2; have x3 := b35.cell 3; have y0 := b45.cell 0; have y1 := b45.cell 1; have y2 := b45.cell 2; have y3 := b45.cell 3)
    | (go_at_call 14; refine (count_any _ _).mono ?_; rintro e w6 ⟨rfl, rfl⟩)
    | (go_at_call 15; refine (rcount_any _ _).mono ?_; rintro e w6 ⟨rfl, rfl⟩)
    | (go_at_call 16; refine (Same_any hS15 hS25).mono ?_; rintro e w7 ⟨rfl, q, rfl⟩))
  go_ret
  refine ⟨?_, below_drewN (bel_trans hB1 (bel_trans hB2 k25)) q⟩
  simp
theorem l24matches_any (number n : Int) (record s : ByteArray) :
    Calls Tryd.prog 3 #[.int .i64 number, .string record, .string s, .int .i64 n] W fun e w' => e = .returned (.bool true) ∧ Below W.heap.size W w' := by
  by_cases h : 9000 < record.size
  · exact l24matches_far number n record s h
  · exact l24matches_near number n record s (by omega)
end
end Go.Proofs.YtcifkahmeimniabDoor
