/-
  Layer 33 (zero): empty, whether all slots are zero.
-/
import Derived.Test.YtgenifcikfbfhaaZerB1
import Derived.Test.YtgenifcikfbfhaaZerW8
namespace Go.Proofs.Ytgenifcikfbfhaa
open Go.RowKit Go.Shelf
attribute [local go_sem] Oper.semAt_some

section
variable {w : World} {d b g sb sc fb fc : Nat} {D : Dev}
set_option maxRecDepth 100000 in
set_option maxHeartbeats 4000000 in
theorem l33empty_any (h : IsDev w d b g sb sc fb fc D) :
    Calls Try.prog 15 #[.pointer (some ⟨d, 0, none⟩)] w fun e w' => ∃ r : Bool, e = .returned (.bool r) ∧ ((∀ t ∈ D.slots, t = zero32) → r = true) ∧ Below w.heap.size w w' := by
  have HL : Hid (∀ wr, Below w.heap.size w wr → ∀ k : Nat, ∃ t c, (c = 0 → t ∈ D.slots) ∧ Calls Try.prog 11 #[.pointer (some ⟨d, 0, none⟩), .int .i64 k] wr fun e w' => e = .returned (.tuple #[.string t, .int .i64 c]) ∧ wr = w') := by
    intro wr hB k
    refine ⟨_, _, ?_, dLoad_any (h.below hB) k⟩
    intro hc
    cases hd : D.down with
    | true =>
      rw [hd, if_pos rfl] at hc
      cases hc
    | false =>
      rw [hd, if_neg (by decide)] at hc
      rw [if_neg (by decide)]
      by_cases hi : inS D.slots (k : Int)
      · rw [if_pos hi, Int.toNat_natCast]
        have hk : k < D.slots.length := by have := hi.2; omega
        rw [List.getD_eq_getElem?_getD, List.getElem?_eq_getElem hk]
        exact List.getElem_mem hk
      · rw [if_neg hi] at hc
        cases hc
  have k2 := zmk32
  have k3 := zcv32
  obtain ⟨Z, hZ⟩ : ∃ Z : Prop, (∀ t ∈ D.slots, t = zero32) = Z := ⟨_, rfl⟩
  have HZ : Hid (Z → ∀ t ∈ D.slots, t = zero32) := fun z => hZ ▸ z
  rw [hZ]
  clear h hZ
  go_enter Try.func15, Try.ntmps15
  go_wp2_with fail
  go_loopw [3] (fun i wr => ∃ k : Nat, k ≤ 16 ∧ i = .int .i64 k ∧ Below w.heap.size w wr) (fun i _ => 16 - (intOf i).toNat)
  case atStart => exact ⟨0, by omega, rfl, Below.refl _ _⟩
  case round =>
    obtain ⟨k, hk, rfl, hB⟩ := hrel
    have hBs := hB.size
    have hwk : wrap64 ((k : Int) + 1) = (k : Int) + 1 := by unfold wrap64; omega
    by_cases hkl : k < 16
    · have hd1 : decide (k < 16) = true := decide_eq_true hkl
      have hd1' : decide ((k : Int) < 16) = true := decide_eq_true (by omega)
      obtain ⟨t, c, hc, HC⟩ := HL.out wr hB k
      have HCC := Lib.hid HC
      have HCm := Lib.hid hc
      clear HC hc
      by_cases h0 : c = 0
      · subst h0
        by_cases ht : t = zero32
        · have dx := text_eq ht
          clear hkl ht
          go_wp2_with (first | (go_at_call 11; refine HCC.out.mono ?_; rintro e w1 ⟨rfl, rfl⟩))
          go_roundw
          case rel => exact ⟨k + 1, by have := of_decide_eq_true hd1; omega, by go_num, hB.alloc hBs _⟩
          case measure => have := of_decide_eq_true hd1; simp [intOf]; omega
        · have dx := text_ne ht
          have hn : Hid (Z → False) := fun z => ht (HZ.out z t (HCm.out rfl))
          clear ht hkl
          go_wp2_with (first | (go_at_call 11; refine HCC.out.mono ?_; rintro e w1 ⟨rfl, rfl⟩))
          go_ret
          exact ⟨_, rfl, fun z => (hn.out z).elim, hB.alloc hBs _⟩
      · have dz : (c == 0) = false := by simpa using h0
        clear h0 hkl
        go_wp2_with (first | (go_at_call 11; refine HCC.out.mono ?_; rintro e w1 ⟨rfl, rfl⟩))
        go_roundw
        case rel => exact ⟨k + 1, by have := of_decide_eq_true hd1; omega, by go_num, hB⟩
        case measure => have := of_decide_eq_true hd1; simp [intOf]; omega
    · have hd1 : decide (k < 16) = false := decide_eq_false hkl
      have hd1' : decide ((k : Int) < 16) = false := decide_eq_false (by omega)
      clear hkl
      go_wp2_with fail
      go_ret
      exact ⟨_, rfl, fun _ => rfl, hB⟩
end
end Go.Proofs.Ytgenifcikfbfhaa
