/-
  Layer 23 (device): the text of an operation, one byte short.
-/
import Derived.Test.YtcifkahmeimniaaDevW17
namespace Go.Proofs.Ytcifkahmeimniaa
open Go.RowKit Go.Shelf
attribute [local go_sem] Oper.semAt_some

set_option maxRecDepth 100000 in
set_option maxHeartbeats 1600000 in
theorem dText_short (w : World) (kind a q : Int) (fill N : Nat) (_hfill : fill < 256) (hN : N ≤ 64) (hN0 : 0 < N) (v : Value) (hv : ∃ A n c, v = .slice A n c) :
    Calls Try.prog 15 #[.agg #[.int .i64 kind, .int .i64 a, .int .i64 q, .int .u8 fill, .bool true, v], .int .i64 ((N : Int) + 1)] w fun e w' => e = .returned (.string (dtext fill true (N + 1))) ∧ Below w.heap.size w w' := by
  obtain ⟨A, n, c, rfl⟩ := hv
  obtain ⟨i0, hi, hz0, hz1, hz2⟩ := info_parts infoByte
  have hw64 : wrap64 ((N : Int) + 1 - 1) = (N : Int) := by unfold wrap64; omega
  have hdt : dtext fill true (N + 1) = dtext fill false N := by unfold dtext; simp
  rw [hdt]
  clear hdt
  go_enter Try.func15, Try.ntmps15
  go_wp2_with fail
  go_loopw [5, 6] (fun sv i wr => ∃ k : Nat, k ≤ N ∧ i = .int .i64 k ∧ wr.ownsRow (w.heap.size + 1) 5 1 sv k (dcells fill k) ∧ Blk wr w.heap.size 41 #[.int .i64 kind, .int .i64 a, .int .i64 q, .int .u8 fill, .bool true, .slice A n c] ∧ Below w.heap.size w wr) (fun _ i _ => N - (intOf i).toNat)
  case atStart => exact ⟨0, Nat.zero_le _, rfl, World.ownsRow_nil _ _ _ _, Blk.new w _ _, (Below.refl _ w).alloc (Nat.le_refl _) _⟩
  case round =>
    obtain ⟨k, hk, rfl, hrow, hop, hB⟩ := hrel
    have hc3 := hop.cell 3
    have Hrow := Lib.hid hrow
    clear hrow
    by_cases hkl : k < N
    · have hlt0 := hop.lt
      go_wp2_with (at_builtin; refine wpList_append_own _ rfl _ _ 42 rfl (w.heap.size + 1) 5 i0 _ 1 1 Try.underlying42 hi hz0 hz1 hz2 rfl (by decide) _ k (dcells fill k) rfl (Hrow.out.alloc _) ⟨wr.heap.size, 0, none⟩ 1 1 [.int .u8 (((fill : Int) + (k : Int) % 5) % 256)] rfl rfl ?c1 ?c2 ?c3 ?c4 ?c5 ?_)
      case c1 => exact cell_one_new _ _ _
      case c2 => simp [Value.oneCell']
      case c3 => unfold maxLen; omega
      case c4 => omega
      case c5 => have := hB.size; simp; omega
      intro v' w' hown hg _
      have hop2 := (hop.alloc (.cells #[.int .u8 (((fill : Int) + (k : Int) % 5) % 256)] 5)).grown hg (fun e => by have := (Hrow.out.lt w.heap.size e.symm).1; omega)
      have hB2 : Below w.heap.size w w' := (hB.alloc hB.size _).grown hg (by have := hB.size; simp; omega) (fun k e => by have := (Hrow.out.lt k e).1; omega)
      have Hown : Hid (w'.ownsRow (w.heap.size + 1) 5 1 v' (k + 1) (dcells fill (k + 1))) := by
        unfold Hid dcells
        rw [List.range_succ, List.map_append]
        exact hown
      clear hown hg
      go_wp2_with fail
      go_roundw
      case rel => exact ⟨k + 1, by omega, by go_num, Hown.out, hop2, hB2⟩
      case measure => simp [intOf]; omega
    · obtain rfl : k = N := by omega
      have hcv := dconv Hrow.out hN0
      go_wp2_with fail
      go_ret
      exact ⟨rfl, hB⟩
end Go.Proofs.Ytcifkahmeimniaa
