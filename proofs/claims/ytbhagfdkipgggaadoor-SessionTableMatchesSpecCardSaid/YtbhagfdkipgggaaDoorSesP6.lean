/-
  Layer 29 (session) in plain words: no number is accepted twice.
-/
import Derived.Test.YtbhagfdkipgggaaDoorSesP5
namespace Go.Proofs.YtbhagfdkipgggaaDoor
open Go.RowKit
theorem mark_parts (s : Ses) (n : Int) : markP s n = { s with top := (markP s n).top, seen := (markP s n).seen } := by
  unfold markP
  split
  · split <;> rfl
  · rfl
/-- What is not fresh stays so. -/
theorem stale_stays (s : Ses) (n t : Int) (_h0 : 0 ≤ s.top) (ht : freshP s t = false) : freshP (markP s n) t = false := by
  by_cases hf : freshP s n = true
  · by_cases htr : 1 ≤ t ∧ t ≤ 4294967296
    · have ht2 := ht
      unfold freshP at ht2
      rw [decide_eq_true htr, Bool.true_and, Bool.or_eq_false_iff, decide_eq_false_iff_not, Bool.and_eq_false_iff, decide_eq_false_iff_not] at ht2
      obtain ⟨h1, h2⟩ := ht2
      unfold markP
      rw [if_pos hf]
      by_cases hn : s.top < n
      · rw [if_pos hn]
        unfold freshP
        dsimp only
        rw [decide_eq_true htr, Bool.true_and, decide_eq_false (by omega : ¬ n < t), Bool.false_or]
        by_cases h64 : n - t < 64
        · rw [decide_eq_true h64, Bool.true_and]
          have hb : seenBit s.seen (s.top - t).toNat = true := by
            rcases h2 with h | h
            · omega
            · simpa using h
          rw [if_pos (by omega), bit_or, bit_of, show (18446744073709551616 : Nat) = 2 ^ 64 from rfl, Nat.testBit_mod_two_pow, decide_eq_true (by omega : (n - t).toNat < 64), Bool.true_and, Nat.mul_comm, Nat.testBit_two_pow_mul, decide_eq_true (by omega : (n - t).toNat ≥ (n - s.top).toNat), Bool.true_and]
          rw [bit_of] at hb
          rw [show (n - t).toNat - (n - s.top).toNat = (s.top - t).toNat by omega, hb]
          rfl
        · rw [decide_eq_false h64, Bool.false_and]
      · rw [if_neg hn]
        unfold freshP
        dsimp only
        rw [decide_eq_true htr, Bool.true_and, decide_eq_false h1, Bool.false_or]
        rcases h2 with h | h
        · rw [decide_eq_false h, Bool.false_and]
        · have hb : seenBit s.seen (s.top - t).toNat = true := by simpa using h
          rw [bit_or, hb, Bool.true_or, Bool.not_true, Bool.and_false]
    · unfold freshP
      rw [decide_eq_false htr, Bool.false_and]
  · have : markP s n = s := by unfold markP; rw [if_neg hf]
    rw [this]
    exact ht
/-- What a fresh number does to the greatest one. -/
theorem mark_top (s : Ses) (n : Int) (hf : freshP s n = true) : s.top - n < 64 ∧ s.top ≤ (markP s n).top ∧ n ≤ (markP s n).top := by
  have hf2 := hf
  unfold freshP at hf2
  rw [Bool.and_eq_true, decide_eq_true_eq, Bool.or_eq_true, decide_eq_true_eq, Bool.and_eq_true, decide_eq_true_eq] at hf2
  unfold markP
  rw [if_pos hf]
  by_cases hn : s.top < n
  · rw [if_pos hn]
    dsimp only
    omega
  · rw [if_neg hn]
    dsimp only
    omega
/-- The peer of a valid session sends. -/
theorem peer_send (s : Ses) (t : ByteArray) (x : Nat) (hv : validP s = true) (hx : x < 65536) :
    sendP { s with side := 3 - s.side, sent := x } t = ({ s with side := 3 - s.side, sent := x + 1 }, ⟨s.id, x + 1, sealP { s with side := 3 - s.side, sent := x } t⟩, 0) := by
  obtain ⟨a1, a2, a3, a4, a5, a6, a7, a8, a9, a10⟩ := valid_parts hv
  have h1 := validP_last s ⟨a1, a2, a3, a4⟩ ⟨a5, a6⟩ ⟨a7, a8, a9, a10⟩
  have hb : 0 ≤ (x : Int) ∧ (x : Int) ≤ 4294967296 ∧ 0 ≤ s.top ∧ s.top ≤ 4294967296 := ⟨by omega, by omega, a9, a10⟩
  have h2 := validP_last ⟨s.id, s.role, 3 - s.side, s.key, (x : Int), s.top, s.seen⟩ ⟨a1, a2, a3, a4⟩ ⟨by dsimp only; omega, a6⟩ hb
  have hv2 : validP { s with side := 3 - s.side, sent := (x : Int) } = true := h2.trans (h1.symm.trans hv)
  unfold sendP
  rw [if_pos hv2]
  have hb2 : ¬ (x : Int) = 4294967296 := by omega
  exact if_neg hb2
/-- What the peer sends is received, if it is fresh. -/
theorem peer_recv (s : Ses) (t : ByteArray) (x : Nat) (top : Int) (seen : Nat) (hv : validP { s with top := top, seen := seen } = true) :
    receiveP { s with top := top, seen := seen } ⟨s.id, x + 1, sealP { s with side := 3 - s.side, sent := x } t⟩ =
      if freshP { s with top := top, seen := seen } (x + 1) = true then (markP { s with top := top, seen := seen } (x + 1), t, 0) else (noSes, noT, 17) := by
  have ho : openP { s with top := top, seen := seen } ⟨s.id, (x : Int) + 1, sealP { s with side := 3 - s.side, sent := x } t⟩ = (bl t, 0) := by
    unfold openP sealP
    dsimp only
    rw [bl_txt]
    exact open_seal _ _ _
  unfold receiveP
  rw [if_pos hv, ho]
  dsimp only
  by_cases hf : freshP { s with top := top, seen := seen } ((x : Int) + 1) = true
  · rw [if_pos rfl, if_pos hf, if_pos hf, if_pos rfl, txt_bl]
  · rw [if_pos rfl, if_neg hf, if_neg hf]
end Go.Proofs.YtbhagfdkipgggaaDoor
