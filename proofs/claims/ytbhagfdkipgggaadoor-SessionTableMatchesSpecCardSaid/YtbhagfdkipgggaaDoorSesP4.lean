/-
  Layer 29 (session) in plain words: what marking a number leaves.
-/
import Derived.Test.YtbhagfdkipgggaaDoorMQ
import Derived.Test.YtbhagfdkipgggaaDoorMK
namespace Go.Proofs.YtbhagfdkipgggaaDoor
theorem bit_or (a b i : Nat) : seenBit (a ||| b) i = (seenBit a i || seenBit b i) := by rw [bit_of, bit_of, bit_of, Nat.testBit_or]
theorem bit_pow (d : Nat) : seenBit (2 ^ d) d = true := by rw [bit_of, Nat.testBit_two_pow_self]
theorem bit_one : seenBit 1 0 = true := rfl
/-- A number that was marked is not fresh. -/
theorem mark_not_fresh (s : Ses) (n : Int) : freshP (markP s n) n = false := by
  unfold markP
  by_cases hf : freshP s n = true
  · rw [if_pos hf]
    by_cases ht : s.top < n
    · rw [if_pos ht]
      unfold freshP
      dsimp only
      rw [Int.sub_self, Int.toNat_zero, decide_eq_false (Int.lt_irrefl n), Bool.false_or]
      have : seenBit (if n - s.top < 64 then s.seen * 2 ^ (n - s.top).toNat % 18446744073709551616 ||| 1 else 1) 0 = true := by
        by_cases h : n - s.top < 64
        · rw [if_pos h, bit_or, bit_one, Bool.or_true]
        · rw [if_neg h]
          rfl
      rw [this]
      simp
    · rw [if_neg ht]
      unfold freshP
      dsimp only
      rw [bit_or, bit_pow, decide_eq_false ht]
      simp
  · rw [if_neg hf]
    simpa using hf
theorem odd_or (a b : Nat) (h : a % 2 = 1 ∨ b % 2 = 1) : (a ||| b) % 2 = 1 := by
  have h1 : ∀ x : Nat, seenBit x 0 = decide (x % 2 = 1) := fun x => by unfold seenBit; rw [Nat.pow_zero, Nat.div_one]
  have h2 := bit_or a b 0
  rw [h1, h1, h1] at h2
  have h3 : (decide (a % 2 = 1) || decide (b % 2 = 1)) = true := by
    rcases h with h | h
    · rw [decide_eq_true h]; rfl
    · rw [decide_eq_true h, Bool.or_true]
  rw [h3] at h2
  exact of_decide_eq_true h2
/-- A valid session stays valid. -/
theorem mark_valid (s : Ses) (n : Int) (hv : validP s = true) : validP (markP s n) = true := by
  have hp := valid_parts hv
  obtain ⟨a1, a2, a3, a4, a5, a6, a7, a8, a9, a10⟩ := hp
  have hl := validP_last s ⟨a1, a2, a3, a4⟩ ⟨a5, a6⟩ ⟨a7, a8, a9, a10⟩
  rw [hv] at hl
  unfold markP
  by_cases hf : freshP s n = true
  · rw [if_pos hf]
    have hn := fresh_parts hf
    by_cases ht : s.top < n
    · rw [if_pos ht]
      have h3 : 0 ≤ s.sent ∧ s.sent ≤ 4294967296 ∧ 0 ≤ n ∧ n ≤ 4294967296 := ⟨a7, a8, by omega, hn.2⟩
      refine (validP_last ⟨s.id, s.role, s.side, s.key, s.sent, n, _⟩ ⟨a1, a2, a3, a4⟩ ⟨a5, a6⟩ h3).trans ?_
      dsimp only
      rw [if_neg (by omega)]
      obtain ⟨N, hN⟩ : ∃ N : Nat, n = (N : Int) := ⟨n.toNat, by omega⟩
      obtain ⟨T, hT⟩ : ∃ T : Nat, s.top = (T : Int) := ⟨s.top.toNat, by omega⟩
      rw [hT] at ht hl
      rw [hT, hN, Int.toNat_natCast]
      rw [hN] at ht
      have hodd : (if (N : Int) - (T : Int) < 64 then s.seen * 2 ^ ((N : Int) - (T : Int)).toNat % 18446744073709551616 ||| 1 else 1) % 2 = 1 := by
        by_cases h : (N : Int) - (T : Int) < 64
        · rw [if_pos h]
          exact odd_or _ _ (.inr rfl)
        · rw [if_neg h]
      rw [decide_eq_true hodd, Bool.and_true]
      by_cases h64 : N < 64
      · have hlow : (if (N : Int) - (T : Int) < 64 then s.seen * 2 ^ ((N : Int) - (T : Int)).toNat % 18446744073709551616 ||| 1 else 1) / 2 ^ N = 0 := by
          rw [if_pos (by omega), show ((N : Int) - (T : Int)).toNat = N - T by omega]
          apply Nat.div_eq_of_lt
          have h1 : 1 < 2 ^ N := Nat.one_lt_two_pow (by omega)
          refine Nat.or_lt_two_pow (Nat.lt_of_le_of_lt (Nat.mod_le _ _) ?_) h1
          have hseen : s.seen < 2 ^ T := by
            rw [Int.toNat_natCast] at hl
            by_cases h0 : (T : Int) = 0
            · rw [if_pos h0] at hl
              have := of_decide_eq_true hl.symm
              rw [this]
              exact Nat.two_pow_pos _
            · rw [if_neg h0, decide_eq_false (by omega), Bool.false_or] at hl
              have := (Bool.and_eq_true _ _).mp hl.symm
              exact (Nat.div_eq_zero_iff_lt (Nat.two_pow_pos _)).1 (of_decide_eq_true this.1)
          calc s.seen * 2 ^ (N - T) < 2 ^ T * 2 ^ (N - T) := Nat.mul_lt_mul_of_pos_right hseen (Nat.two_pow_pos _)
            _ = 2 ^ N := by rw [← Nat.pow_add]; congr 1; omega
        rw [decide_eq_true hlow, Bool.or_true]
      · rw [decide_eq_true (by omega : (64 : Int) ≤ (N : Int)), Bool.true_or]
    · rw [if_neg ht]
      refine (validP_last ⟨s.id, s.role, s.side, s.key, s.sent, s.top, s.seen ||| 2 ^ (s.top - n).toNat⟩ ⟨a1, a2, a3, a4⟩ ⟨a5, a6⟩ ⟨a7, a8, a9, a10⟩).trans ?_
      dsimp only
      have h0 : ¬ s.top = 0 := by omega
      rw [if_neg h0] at hl ⊢
      obtain ⟨T, hT⟩ : ∃ T : Nat, s.top = (T : Int) := ⟨s.top.toNat, by omega⟩
      rw [hT] at hl ht ⊢
      rw [Int.toNat_natCast] at hl ⊢
      have hl2 := (Bool.and_eq_true _ _).mp hl.symm
      rw [decide_eq_true (odd_or _ _ (.inl (of_decide_eq_true hl2.2))), Bool.and_true]
      by_cases h64 : T < 64
      · have hl3 := hl2.1
        rw [decide_eq_false (by omega), Bool.false_or] at hl3
        have hs := (Nat.div_eq_zero_iff_lt (Nat.two_pow_pos _)).1 (of_decide_eq_true hl3)
        have hlow : (s.seen ||| 2 ^ ((T : Int) - n).toNat) / 2 ^ T = 0 := by
          apply Nat.div_eq_of_lt
          exact Nat.or_lt_two_pow hs (Nat.pow_lt_pow_right (by decide) (by omega))
        rw [decide_eq_true hlow, Bool.or_true]
      · rw [decide_eq_true (by omega : (64 : Int) ≤ (T : Int)), Bool.true_or]
  · rw [if_neg hf]
    exact hv
theorem mark_fits {s : Ses} (hs : s.Fits) (n : Int) (hn : -9223372036854775808 ≤ n ∧ n < 9223372036854775808) : (markP s n).Fits := by
  obtain ⟨h1, h2, h3, h4, h5, h6, h7⟩ := hs
  have hpow : (18446744073709551616 : Nat) = 2 ^ 64 := rfl
  unfold markP
  by_cases hf : freshP s n = true
  · rw [if_pos hf]
    by_cases ht : s.top < n
    · rw [if_pos ht]
      refine ⟨h1, h2, h3, h4, hn, ?_, h7⟩
      dsimp only
      split
      · rw [hpow]
        exact Nat.or_lt_two_pow (Nat.mod_lt _ (Nat.two_pow_pos _)) (by decide)
      · decide
    · rw [if_neg ht]
      refine ⟨h1, h2, h3, h4, h5, ?_, h7⟩
      dsimp only
      rw [hpow] at h6 ⊢
      refine Nat.or_lt_two_pow h6 (Nat.pow_lt_pow_right (by decide) ?_)
      unfold freshP at hf
      rw [decide_eq_false ht, Bool.false_or, Bool.and_eq_true, Bool.and_eq_true, decide_eq_true_eq, decide_eq_true_eq] at hf
      omega
  · rw [if_neg hf]
    exact ⟨h1, h2, h3, h4, h5, h6, h7⟩
end Go.Proofs.YtbhagfdkipgggaaDoor
