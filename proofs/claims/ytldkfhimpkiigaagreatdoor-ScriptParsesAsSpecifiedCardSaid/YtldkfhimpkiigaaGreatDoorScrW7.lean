/-
  Layer 46 (script): ContainsAny at the first byte of a word.
-/
import Derived.Test.YtldkfhimpkiigaaGreatDoorScrW6
import Derived.Laws.RangeAny
import Derived.Deep.LoopGhost
import Derived.Lib.OthersKept
namespace Go.Proofs.YtldkfhimpkiigaaGreatDoor
open Go.RowKit ScrP
attribute [local go_sem] Oper.semAt_some

def atEq : ByteArray := ⟨#[64, 61]⟩
set_option maxRecDepth 100000 in
set_option maxHeartbeats 4000000 in
theorem IndexRune_bad (w : World) : Calls Tryz.prog 103 #[.string ⟨#[64, 61]⟩, .int .i32 65533] w fun e w' => e = .returned (.int .i64 (-1)) ∧ Below w.heap.size w w' := by
  go_enter Tryz.func103, Tryz.ntmps103
  go_wp2_with fail
  go_loopg [5, 6] 2 (fun g _ _ wx => ∃ i : Nat, i + g = 2 ∧ wx = w.iter ⟨#[64, 61]⟩ i)
  case atStart => exact ⟨0, rfl, rfl⟩
  case round =>
    obtain ⟨i, hig, rfl⟩ := hrel
    cases gk with
    | zero =>
      obtain rfl : i = 2 := by omega
      have hnx := fun ty => run_next_end (P := Tryz.prog) w ⟨#[64, 61]⟩ 2 ty (by decide)
      go_wp2_with fail
      go_ret
      exact ⟨rfl, (Below.refl _ _).alloc (Nat.le_refl _) _⟩
    | succ g =>
      have hi : i = 0 ∨ i = 1 := by omega
      rcases hi with rfl | rfl
      · have hnx := fun ty => run_next_ascii (P := Tryz.prog) w ⟨#[64, 61]⟩ 0 ty (by decide) (by decide)
        go_wp2_with fail
        go_roundg g
        case measure => omega
        case rel => exact ⟨1, by omega, rfl⟩
      · have hnx := fun ty => run_next_ascii (P := Tryz.prog) w ⟨#[64, 61]⟩ 1 ty (by decide) (by decide)
        go_wp2_with fail
        go_roundg g
        case measure => omega
        case rel => exact ⟨2, by omega, rfl⟩
theorem dec_one {c : UInt8} (h : 128 ≤ c.toNat) : Utf8.decode ⟨#[c]⟩ 0 = (65533, 1) := by
  rw [Lib.decode_at]
  have e0 : ((⟨#[c]⟩ : ByteArray).get! 0) = c := rfl
  rw [e0]
  unfold Lib.decodeN
  have e1 : (⟨#[c]⟩ : ByteArray).size - 0 = 1 := rfl
  rw [e1, if_neg (by omega), if_neg (by omega), if_neg (by omega), if_neg (by omega)]
set_option maxRecDepth 100000 in
set_option maxHeartbeats 4000000 in
theorem IndexAny_high (c : UInt8) (hc : 128 ≤ c.toNat) (w : World) : Calls Tryz.prog 95 #[.string ⟨#[c]⟩, .string ⟨#[64, 61]⟩] w fun e w' => e = .returned (.int .i64 (-1)) ∧ Below w.heap.size w w' := by
  have hd := Lib.hid (dec_one hc)
  obtain ⟨s, hs⟩ : ∃ s, (⟨#[c]⟩ : ByteArray) = s := ⟨_, rfl⟩
  have hsz : s.size = 1 := by rw [← hs]; rfl
  rw [hs] at hd ⊢
  have hszH := Lib.hid hsz
  have q1 : ((s.size : Nat) : Int) = 1 := by rw [hsz]; rfl
  clear hs hc hsz
  go_enter Tryz.func95, Tryz.ntmps95
  go_wp2_with (go_at_call 114; refine (Tryz.strings_shouldUseASCIISet _ _).mono ?_; rintro e w' ⟨rfl, hw⟩; rw [hw])
  go_loopg [9, 10] 1 (fun g _ _ wx => ∃ i : Nat, i + g = 1 ∧ Hid (wx.heap[w.heap.size]? = some (.stringIter s i)) ∧ Hid (Below w.heap.size w wx))
  case atStart =>
    refine ⟨0, rfl, ?_, ?_⟩
    · unfold Hid
      show (w.heap.push _)[w.heap.size]? = _
      simp
    · exact (Below.refl _ _).alloc (Nat.le_refl _) _
  case round =>
    obtain ⟨i, hig, hk, hB⟩ := hrel
    obtain ⟨w1, hw1⟩ : ∃ x, x = wr := ⟨_, rfl⟩
    subst hw1
    cases gk with
    | zero =>
      obtain rfl : i = 1 := by omega
      have hnx := fun ty => Lib.run_next_end_at (P := Tryz.prog) w1 w.heap.size s 1 ty hk.out (by rw [hszH.out]; decide)
      clear q1
      go_wp2_with fail
      go_ret
      exact ⟨rfl, hB.out⟩
    | succ g =>
      obtain rfl : i = 0 := by omega
      obtain rfl : g = 0 := by omega
      have hnx := fun ty => Lib.run_next_any_at (P := Tryz.prog) w1 w.heap.size s 0 ty hk.out (by rw [hszH.out]; decide)
      rw [hd.out] at hnx
      obtain ⟨w2, hw2⟩ : ∃ w2, w1.iterAt w.heap.size s (0 + 1) = w2 := ⟨_, rfl⟩
      dsimp only at hnx
      rw [hw2] at hnx
      have hk2 : Hid (w2.heap[w.heap.size]? = some (.stringIter s 1)) := by unfold Hid; rw [← hw2]; exact Lib.iterAt_heap w1 _ s 0 1 hk.out
      have hB2 : Hid (Below w.heap.size w w2) := by unfold Hid; rw [← hw2]; exact Lib.below_iterAt hB.out (Nat.le_refl _) s _
      clear hw2 q1
      go_wp2_with fail
      refine (IndexRune_bad w2).mono ?_
      rintro e w3 ⟨rfl, hB3⟩
      have hk3 : Hid (w3.heap[w.heap.size]? = some (.stringIter s 1)) := (hB3.block w.heap.size (Array.getElem?_eq_some_iff.1 hk2.out).1).trans hk2.out
      have L3 := Lib.hid (hB2.out.trans (hB3.mono hB2.out.size))
      clear hnx hB3 hk2 hB2 hk hB
      go_wp2_with fail
      go_roundg 0
      case measure => omega
      case rel => exact ⟨1, rfl, hk3, L3⟩
theorem contains_tab (c : UInt8) : Lib.containsAny [c] [64, 61] = (c == 64 || c == 61) := by
  have h : ((List.range 256).all fun k => Lib.containsAny [UInt8.ofNat k] [64, 61] == (UInt8.ofNat k == 64 || UInt8.ofNat k == 61)) = true := by kernel_rfl
  have h1 := List.all_eq_true.1 h c.toNat (List.mem_range.2 c.toNat_lt)
  rw [UInt8.ofNat_toNat] at h1
  exact beq_iff_eq.1 h1
set_option maxRecDepth 100000 in
theorem ContainsAny_first (c : UInt8) (w : World) : Calls Tryz.prog 78 #[.string ⟨#[c]⟩, .string ⟨#[64, 61]⟩] w fun e w' => e = .returned (.bool (c == 64 || c == 61)) ∧ Below w.heap.size w w' := by
  by_cases hc : c.toNat < 128
  · have h := Tryz.strings_ContainsAny_laid ⟨#[c]⟩ ⟨#[64, 61]⟩ w (show 1 < 4294967281 by decide) (by decide) (fun j b hj => by
      have hm : b ∈ [c] := List.mem_iff_getElem?.2 ⟨j, hj⟩
      rw [List.mem_singleton.1 hm]
      exact hc) (fun j b hj => by
      have hm : b ∈ [(64 : UInt8), 61] := List.mem_iff_getElem?.2 ⟨j, hj⟩
      simp at hm
      rcases hm with rfl | rfl <;> decide)
    refine h.mono ?_
    rintro e w' ⟨rfl, hB⟩
    exact ⟨by rw [← contains_tab], hB⟩
  · have H := Lib.hid (IndexAny_high c (by omega) w)
    have hR : Hid ((c == 64 || c == 61) = false) := by
      unfold Hid
      rw [Bool.or_eq_false_iff]
      exact ⟨beq_eq_false_iff_ne.2 (fun e => by rw [e] at hc; exact hc (by decide)), beq_eq_false_iff_ne.2 (fun e => by rw [e] at hc; exact hc (by decide))⟩
    clear hc
    go_enter Tryz.func78, Tryz.ntmps78
    go_wp2_with fail
    refine H.out.mono ?_
    rintro e w1 ⟨rfl, hB1⟩
    have B1 := Lib.hid hB1
    clear hB1 H
    go_wp2_with fail
    go_ret
    exact ⟨by rw [hR.out]; rfl, B1.out⟩
end Go.Proofs.YtldkfhimpkiigaaGreatDoor
