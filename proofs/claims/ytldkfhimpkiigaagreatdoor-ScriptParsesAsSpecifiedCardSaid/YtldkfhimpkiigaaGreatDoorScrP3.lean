/-
  Layer 46 (script): numbers in decimal notation: what Atoi and Itoa say together (plain).
-/
import Derived.Test.YtldkfhimpkiigaaGreatDoorScrP1
import Derived.Lib.AtoiAll
namespace Go.Proofs.YtldkfhimpkiigaaGreatDoor
namespace ScrP
open Go.Lib (atoiAll parseMag parseUint10 decDigits itoa)

theorem decVal_snoc (l : List UInt8) (c : UInt8) : decVal (l ++ [c]) = 10 * decVal l + (c.toNat - 48) := by unfold decVal; rw [List.foldl_append]; rfl
theorem isD_iff {c : UInt8} : isD c = true ↔ 48 ≤ c.toNat ∧ c.toNat ≤ 57 := by unfold isD; rw [Bool.and_eq_true, decide_eq_true_iff, decide_eq_true_iff]
theorem foldl_parse : ∀ (l : List UInt8) (acc : Nat), l.all isD = true → acc * 10 ^ l.length + 10 ^ l.length ≤ 10000000000000 →
    parseUint10 acc l = .ok (l.foldl (fun n c => 10 * n + (c.toNat - 48)) acc)
  | [], acc, _, _ => rfl
  | c :: r, acc, hd, hb => by
    rw [List.all_cons, Bool.and_eq_true] at hd
    have hc := isD_iff.1 hd.1
    rw [List.length_cons, Nat.pow_succ] at hb
    have hp : 1 ≤ 10 ^ r.length := Nat.one_le_pow _ _ (by decide)
    have h1 : acc * 10 + 10 ≤ 10000000000000 := by
      have : (acc * 10 + 10) * 1 ≤ (acc * 10 + 10) * 10 ^ r.length := Nat.mul_le_mul_left _ hp
      have e : (acc * 10 + 10) * 10 ^ r.length = acc * (10 ^ r.length * 10) + 10 ^ r.length * 10 := by
        rw [Nat.add_mul, Nat.mul_assoc, Nat.mul_comm 10 (10 ^ r.length)]
      omega
    unfold parseUint10
    rw [if_pos hc, if_neg (by omega), if_neg (by omega)]
    have h2 : (acc * 10 + (c.toNat - 48)) * 10 ^ r.length + 10 ^ r.length ≤ 10000000000000 := by
      have a : (acc * 10 + (c.toNat - 48)) * 10 ^ r.length ≤ (acc * 10 + 9) * 10 ^ r.length := Nat.mul_le_mul_right _ (by omega)
      have e : (acc * 10 + 9) * 10 ^ r.length + 10 ^ r.length = acc * (10 ^ r.length * 10) + 10 ^ r.length * 10 := by
        rw [Nat.add_mul, Nat.mul_assoc, Nat.mul_comm 10 (10 ^ r.length)]
        omega
      omega
    rw [foldl_parse r _ hd.2 h2, Nat.mul_comm]
    rfl
theorem decVal_lt : ∀ (l : List UInt8), l.all isD = true → decVal l < 10 ^ l.length := by
  intro l
  have key : ∀ (n : Nat) (l : List UInt8), l.length = n → l.all isD = true → decVal l < 10 ^ l.length := by
    intro n
    induction n with
    | zero =>
      intro l hl _
      rw [List.length_eq_zero_iff.1 hl]
      decide
    | succ n ih =>
      intro l hl hd
      obtain ⟨r, c, rfl⟩ : ∃ r c, l = r ++ [c] := ⟨l.dropLast, l.getLast (by intro e; rw [e] at hl; cases hl), (List.dropLast_concat_getLast _).symm⟩
      rw [List.all_append, Bool.and_eq_true] at hd
      have hr : r.length = n := by simpa using hl
      have h1 := ih r hr hd.1
      have hc : isD c = true := by simpa using hd.2
      have hc := isD_iff.1 hc
      rw [decVal_snoc, List.length_append, List.length_singleton, Nat.pow_succ]
      omega
  exact key l.length l rfl
theorem digit_back {c : UInt8} (h : 48 ≤ c.toNat ∧ c.toNat ≤ 57) : UInt8.ofNat (48 + (c.toNat - 48)) = c := by
  rw [show 48 + (c.toNat - 48) = c.toNat by omega]
  exact UInt8.ofNat_toNat
/-- The numeral of what digits without leading zeros denote. -/
theorem digits_val : ∀ (n : Nat) (l : List UInt8), l.length = n + 1 → l.all isD = true → (l.length = 1 ∨ l.head? ≠ some 48) → decDigits (decVal l) = l ∧ (l.head? ≠ some 48 → 1 ≤ decVal l) := by
  intro n
  induction n with
  | zero =>
    intro l hl hd _
    obtain ⟨c, rfl⟩ : ∃ c, l = [c] := List.length_eq_one_iff.1 hl
    have hc : isD c = true := by simpa using hd
    have hc := isD_iff.1 hc
    have e : decVal [c] = c.toNat - 48 := by show 10 * 0 + (c.toNat - 48) = _; omega
    rw [e]
    refine ⟨?_, fun h => ?_⟩
    · rw [decDigits, dif_pos (by omega), digit_back hc]
    · have : c ≠ 48 := fun e => h (by rw [e]; rfl)
      have : c.toNat ≠ 48 := fun e => this (UInt8.toNat_inj.1 e)
      omega
  | succ n ih =>
    intro l hl hd hz
    obtain ⟨r, c, rfl⟩ : ∃ r c, l = r ++ [c] := ⟨l.dropLast, l.getLast (by intro e; rw [e] at hl; cases hl), (List.dropLast_concat_getLast _).symm⟩
    rw [List.all_append, Bool.and_eq_true] at hd
    have hr : r.length = n + 1 := by simpa using hl
    have hc : isD c = true := by simpa using hd.2
    have hc := isD_iff.1 hc
    have hh : (r ++ [c]).head? = r.head? := by
      cases r with
      | nil => cases hr
      | cons a r => rfl
    have hz2 : r.head? ≠ some 48 := by
      rcases hz with h | h
      · rw [List.length_append, hr] at h; simp at h
      · rwa [hh] at h
    obtain ⟨i1, i2⟩ := ih r hr hd.1 (.inr hz2)
    have h1 := i2 hz2
    rw [decVal_snoc]
    refine ⟨?_, fun _ => by omega⟩
    rw [decDigits, dif_neg (by omega), show (10 * decVal r + (c.toNat - 48)) / 10 = decVal r by omega, show (10 * decVal r + (c.toNat - 48)) % 10 = c.toNat - 48 by omega, i1, digit_back hc]
theorem decOk_iff {l : List UInt8} : decOk l = true ↔ (1 ≤ l.length ∧ l.length ≤ 13) ∧ l.all isD = true ∧ (l.length = 1 ∨ l.head? ≠ some 48) := by
  unfold decOk
  simp only [Bool.and_eq_true, Bool.or_eq_true, decide_eq_true_eq, Bool.not_eq_true', beq_eq_false_iff_ne, and_assoc]
theorem decOk_digits {l : List UInt8} (h : decOk l = true) : decDigits (decVal l) = l ∧ decVal l < 10000000000000 := by
  obtain ⟨⟨h1, h2⟩, h3, h4⟩ := decOk_iff.1 h
  obtain ⟨n, hn⟩ : ∃ n, l.length = n + 1 := ⟨l.length - 1, by omega⟩
  refine ⟨(digits_val n l hn h3 h4).1, ?_⟩
  have a := decVal_lt l h3
  have b : 10 ^ l.length ≤ 10 ^ 13 := Nat.pow_le_pow_right (by decide) h2
  have e : (10 : Nat) ^ 13 = 10000000000000 := by decide
  omega
theorem decOk_atoi {l : List UInt8} (h : decOk l = true) : atoiAll l = .ok (decVal l : Int) := by
  obtain ⟨⟨h1, h2⟩, h3, h4⟩ := decOk_iff.1 h
  have hv := (decOk_digits h).2
  cases l with
  | nil => cases h1
  | cons c r =>
    have hc : isD c = true := by rw [List.all_cons, Bool.and_eq_true] at h3; exact h3.1
    have hc := isD_iff.1 hc
    have hp : parseMag (c :: r) = .ok (decVal (c :: r)) := by
      unfold parseMag
      rw [if_neg (by simp)]
      have b : 10 ^ (c :: r).length ≤ 10 ^ 13 := Nat.pow_le_pow_right (by decide) h2
      have e : (10 : Nat) ^ 13 = 10000000000000 := by decide
      exact foldl_parse (c :: r) 0 h3 (by omega)
    unfold atoiAll
    dsimp only
    rw [if_neg (show ¬ (c.toNat = 43 ∨ c.toNat = 45) by omega), hp]
    dsimp only
    rw [if_neg (by omega), if_neg (by omega), if_neg (by omega)]
theorem decOk_itoa {l : List UInt8} (h : decOk l = true) : itoa (decVal l : Int) = l := by
  unfold itoa
  rw [if_neg (by omega), show ((decVal l : Nat) : Int).toNat = decVal l by omega]
  exact (decOk_digits h).1
theorem dig_toNat {k : Nat} (h : k < 10) : (UInt8.ofNat (48 + k)).toNat = 48 + k := by
  rw [UInt8.toNat_ofNat']
  omega
theorem dec_isD (u : Nat) : (decDigits u).all isD = true := by
  induction u using Nat.strongRecOn with
  | _ u ih =>
    rw [decDigits]
    split
    · next h => rw [List.all_cons, isD_iff.2 (by rw [dig_toNat h]; omega)]; rfl
    · rw [List.all_append, ih (u / 10) (by omega), List.all_cons, isD_iff.2 (by rw [dig_toNat (by omega)]; omega)]; rfl
theorem dec_ne (u : Nat) : decDigits u ≠ [] := by
  rw [decDigits]
  split <;> simp
theorem dec_head (u : Nat) (h1 : 1 ≤ u) : (decDigits u).head? ≠ some 48 := by
  induction u using Nat.strongRecOn with
  | _ u ih =>
    rw [decDigits]
    split
    · next h =>
      intro e
      have e2 := Option.some.inj e
      have := congrArg UInt8.toNat e2
      rw [dig_toNat h] at this
      have e3 : (48 : UInt8).toNat = 48 := rfl
      omega
    · have hi := ih (u / 10) (by omega) (by omega)
      cases e : decDigits (u / 10) with
      | nil => exact absurd e (dec_ne _)
      | cons a r => rw [e] at hi; exact hi
theorem dec_val (u : Nat) : decVal (decDigits u) = u := by
  induction u using Nat.strongRecOn with
  | _ u ih =>
    rw [decDigits]
    split
    · next h =>
      show 10 * 0 + ((UInt8.ofNat (48 + u)).toNat - 48) = u
      rw [dig_toNat h]
      omega
    · rw [decVal_snoc, ih (u / 10) (by omega), dig_toNat (by omega)]
      omega
/-- What decimal tests: Atoi gives a number, of at most 13 bytes, whose numeral is the word. -/
theorem decOk_of {l : List UInt8} {v : Int} (hl : l.length ≤ 13) (hi : itoa v = l) (hv : 0 ≤ v) : decOk l = true ∧ v = (decVal l : Int) := by
  have e : l = decDigits v.toNat := by rw [← hi]; unfold itoa; rw [if_neg (by omega)]
  rw [e] at hl ⊢
  have hn : 1 ≤ (decDigits v.toNat).length := by
    cases e2 : decDigits v.toNat with
    | nil => exact absurd e2 (dec_ne _)
    | cons a r => simp
  refine ⟨decOk_iff.2 ⟨⟨hn, hl⟩, dec_isD _, ?_⟩, by rw [dec_val]; omega⟩
  by_cases h0 : v.toNat = 0
  · rw [h0, decDigits]
    exact .inl rfl
  · exact .inr (dec_head _ (by omega))
/-- A number up to 2^41 is written with at most 13 digits. -/
theorem decOk_num {u : Nat} (h : u ≤ 2199023255552) : decOk (decDigits u) = true := by
  refine (decOk_of (v := (u : Int)) ?_ (by unfold itoa; rw [if_neg (by omega)]; rfl) (by omega)).1
  have h1 := Lib.decDigits_length u
  have h2 : Lib.nDigits u ≤ 13 := by
    refine Nat.le_of_not_lt fun h14 => ?_
    have key : ∀ (k u : Nat), u < 10 ^ (k + 1) → Lib.nDigits u ≤ k + 1 := by
      intro k
      induction k with
      | zero => intro u hu; rw [Lib.nDigits_small (by simpa using hu)]; exact Nat.le_refl _
      | succ k ih =>
        intro u hu
        by_cases hs : u < 10
        · rw [Lib.nDigits_small hs]; omega
        · rw [Lib.nDigits_big hs]
          have := ih (u / 10) (by rw [Nat.pow_succ] at hu; omega)
          omega
    have := key 12 u (by have e : (10 : Nat) ^ (12 + 1) = 10000000000000 := by decide
                         omega)
    omega
  omega
end ScrP
end Go.Proofs.YtldkfhimpkiigaaGreatDoor
