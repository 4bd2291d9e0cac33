import Derived.Test.YtpghocekofdpbaaGreatDoorQb29
namespace Go.Proofs.YtpghocekofdpbaaGreatDoor
theorem kFrom_gt (n t : Nat) (h : 0 < n / 2 ^ (8 * t)) : ∀ j, t < j -> t < kFrom n j
 | 0, hj => absurd hj (Nat.not_lt_zero _)
 | j + 1, hj => by
  unfold kFrom
  split
  ·exact hj
  ·rename_i hn
   rcases Nat.lt_or_eq_of_le (Nat.le_of_lt_succ hj) with h1 | h1
   ·exact kFrom_gt n t h j h1
   ·rw [h1] at h
    exact absurd h hn
theorem kFrom_end (n t : Nat) (h : n / 2 ^ (8 * t) = 0) : ∀ j, kFrom n j <= t
 | 0 => Nat.zero_le _
 | j + 1 => by
  unfold kFrom
  split
  ·rename_i hn
   rcases Nat.lt_or_ge j t with h1 | h1
   ·exact h1
   ·have h2 : n / 2 ^ (8 * j) <= n / 2 ^ (8 * t) := Nat.div_le_div_left (Nat.pow_le_pow_right (by decide) (Nat.mul_le_mul_left 8 h1)) (Nat.two_pow_pos _)
    omega
  ·exact kFrom_end n t h j
theorem kOf_gt (n t : Nat) (hn : n < 9223372036854775808) (h : 0 < n / 2 ^ (8 * t)) : t < kOf n := by
 refine kFrom_gt n t h 8 ?_
 rcases Nat.lt_or_ge t 8 with h1 | h1
 ·exact h1
 ·have h2 : n / 2 ^ (8 * t) <= n / 2 ^ (8 * 8) := Nat.div_le_div_left (Nat.pow_le_pow_right (by decide) (Nat.mul_le_mul_left 8 h1)) (Nat.two_pow_pos _)
  have h3 : n / 2 ^ (8 * 8) = 0 := Nat.div_eq_of_lt (by omega)
  omega
theorem kOf_end (n t : Nat) (h : n / 2 ^ (8 * t) = 0) : kOf n <= t := kFrom_end n t h 8
def lowL (n t : Nat) : List UInt8 := (List.range t).map fun i => UInt8.ofNat (n / 2 ^ (8 * i))
theorem lowL_len (n t : Nat) : (lowL n t).length = t := by unfold lowL; rw [List.length_map, List.length_range]
theorem lowL_snoc (n t : Nat) : lowL n (t + 1) = lowL n t ++ [UInt8.ofNat (n / 2 ^ (8 * t))] := by
 unfold lowL
 rw [List.range_succ, List.map_append]
 rfl
theorem lowL_get (n k i : Nat) (h : i < k) : (lowL n k)[i]? = some (UInt8.ofNat (n / 2 ^ (8 * i))) := by
 unfold lowL
 rw [List.getElem?_map, List.getElem?_range h]
 rfl
theorem div_next (n t : Nat) : n / 2 ^ (8 * t) / 256 = n / 2 ^ (8 * (t + 1)) := by
 rw [Nat.div_div_eq_div_mul]
 congr 1
 rw [show 8 * (t + 1) = 8 * t + 8 by omega, Nat.pow_add]
end Go.Proofs.YtpghocekofdpbaaGreatDoor
