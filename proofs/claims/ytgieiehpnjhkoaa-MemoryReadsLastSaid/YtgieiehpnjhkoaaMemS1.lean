/-
  Layer 22 (memory): the comparisons of lists, at equal lists.
-/
import Derived.Test.YtgieiehpnjhkoaaMemR5
namespace Go.Proofs.Ytgieiehpnjhkoaa
open Go.RowKit Go.Shelf
attribute [local go_sem] Oper.semAt_some

theorem below_drewN {B : Nat} {a w : World} (h : Below B a w) (n : Nat) : Below B a (w.drewN n) := ⟨h.os, h.tape, h.output, h.size, h.block⟩

set_option maxHeartbeats 4000000 in
theorem sameTexts_true (w : World) (v1 v2 : Value) (I : List ByteArray) (h1 : Texts w v1 I) (h2 : Texts w v2 I) :
    Calls Try.prog 27 #[v1, v2] w fun e w' => e = .returned (.bool true) ∧ Below w.heap.size w w' := by
  obtain ⟨A, c, rfl, hc1, hc2, hc3⟩ := h1.parts
  obtain ⟨B, d, rfl, hd1, hd2, hd3⟩ := h2.parts
  unfold maxLen at hc2 hd2
  have HA := Lib.hid hc3
  have HB := Lib.hid hd3
  clear hc3 hd3 h1 h2
  go_enter Try.func27, Try.ntmps27
  go_wp2_with fail
  go_loopw [5] (fun a wr => ∃ k : Nat, k ≤ I.length ∧ a = .int .i64 k ∧ Below w.heap.size w wr) (fun a _ => I.length - (intOf a).toNat)
  case atStart => exact ⟨0, Nat.zero_le _, rfl, Below.refl _ _⟩
  case round =>
    obtain ⟨k, hk, rfl, hB⟩ := hrel
    by_cases hkl : k < I.length
    · obtain ⟨t, hs⟩ : ∃ t, I[k]? = some t := ⟨_, List.getElem?_eq_getElem hkl⟩
      obtain ⟨ga, _, rfl, la, ha0⟩ := HA.out k t hs
      obtain ⟨gb, _, rfl, lb, hb0⟩ := HB.out k t hs
      have ha := (hB.cell (p := ⟨ga, k, none⟩) la.lt).trans ha0
      have hb := (hB.cell (p := ⟨gb, k, none⟩) lb.lt).trans hb0
      clear ha0 hb0 la lb
      clear hs
      go_wp2_with (go_quiet (fail))
      go_roundw
      case rel => exact ⟨k + 1, by omega, by go_num, below_drewN hB _⟩
      case measure => simp [intOf]; omega
    · obtain rfl : k = I.length := by omega
      go_wp2_with fail
      go_ret
      exact ⟨rfl, hB⟩

/-- A slice of numbers that reads as a list. -/
def IntsRow (w : World) (v : Value) (l : List Nat) : Prop := ∃ base, w.ownsRow base 3 1 v l.length (intCells l)
theorem IntsRow.parts {w : World} {v : Value} {I : List Nat} (h : IntsRow w v I) : ∃ A c, v = .slice A I.length c ∧ I.length ≤ c ∧ c ≤ maxLen ∧ ∀ (i t : Nat), I[i]? = some t → ∃ gb, A = some ⟨gb, 0, none⟩ ∧ gb < w.heap.size ∧ w.cell? ⟨gb, i, none⟩ = some (.int .i64 t) := by
  obtain ⟨base, h⟩ := h
  have h' := h
  rcases h.2 with ⟨rfl, h0⟩ | ⟨gb, cap, cur, rfl, _, hb, h1, h2, _, _⟩
  · exact ⟨none, 0, by rw [h0], by omega, by unfold maxLen; omega, fun i t hi => by rw [List.eq_nil_of_length_eq_zero h0] at hi; simp at hi⟩
  · refine ⟨_, cap, rfl, h1, h2, fun i t hi => ⟨gb, rfl, Blk.lt hb, ?_⟩⟩
    rw [h'.cellAt i (by have := (List.getElem?_eq_some_iff.1 hi).1; omega)]
    simp [intCells, hi]

set_option maxHeartbeats 4000000 in
theorem sameInts_true (w : World) (v1 v2 : Value) (I : List Nat) (h1 : IntsRow w v1 I) (h2 : IntsRow w v2 I) :
    Calls Try.prog 42 #[v1, v2] w fun e w' => e = .returned (.bool true) ∧ Below w.heap.size w w' := by
  obtain ⟨A, c, rfl, hc1, hc2, hc3⟩ := h1.parts
  obtain ⟨B, d, rfl, hd1, hd2, hd3⟩ := h2.parts
  unfold maxLen at hc2 hd2
  have HA := Lib.hid hc3
  have HB := Lib.hid hd3
  clear hc3 hd3 h1 h2
  go_enter Try.func42, Try.ntmps42
  go_wp2_with fail
  go_loopw [5] (fun a wr => ∃ k : Nat, k ≤ I.length ∧ a = .int .i64 k ∧ Below w.heap.size w wr) (fun a _ => I.length - (intOf a).toNat)
  case atStart => exact ⟨0, Nat.zero_le _, rfl, Below.refl _ _⟩
  case round =>
    obtain ⟨k, hk, rfl, hB⟩ := hrel
    by_cases hkl : k < I.length
    · obtain ⟨t, hs⟩ : ∃ t, I[k]? = some t := ⟨_, List.getElem?_eq_getElem hkl⟩
      obtain ⟨ga, rfl, la, ha0⟩ := HA.out k t hs
      obtain ⟨gb, rfl, lb, hb0⟩ := HB.out k t hs
      have ha := (hB.cell (p := ⟨ga, k, none⟩) la).trans ha0
      have hb := (hB.cell (p := ⟨gb, k, none⟩) lb).trans hb0
      clear ha0 hb0 la lb
      clear hs
      go_wp2_with (go_quiet (fail))
      go_roundw
      case rel => exact ⟨k + 1, by omega, by go_num, below_drewN hB _⟩
      case measure => simp [intOf]; omega
    · obtain rfl : k = I.length := by omega
      go_wp2_with fail
      go_ret
      exact ⟨rfl, hB⟩
end Go.Proofs.Ytgieiehpnjhkoaa
