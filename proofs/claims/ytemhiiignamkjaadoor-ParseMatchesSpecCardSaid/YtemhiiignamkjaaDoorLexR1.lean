/-
  The walks of layer 11's specification: classes of bytes, the byte at an index, words, units, signs.
-/
import Derived.Test.YtemhiiignamkjaaDoorLexW2
import Derived.Test.YtemhiiignamkjaaDoorMA
namespace Go.Proofs.YtemhiiignamkjaaDoor
open Go.RowKit LexP

theorem ref_letter_any (c : UInt8) (w : World) :
    Calls Tryd.prog 67 #[.int .u8 c.toNat] w fun e w' => e = .returned (.bool (isL c)) ∧ w = w' := by
  by_cases h1 : 97 ≤ (c.toNat : Int)
  · go_enter Tryd.func67, Tryd.ntmps67
    go_wp2
    go_ret
    exact ⟨ret_bool (by unfold isL; rw [Bool.eq_iff_iff]; simp only [decide_eq_true_eq]; omega), rfl⟩
  · go_enter Tryd.func67, Tryd.ntmps67
    go_wp2
    go_ret
    exact ⟨ret_bool (show isL c = false from decide_eq_false (by omega)).symm, rfl⟩
theorem ref_digit_any (c : UInt8) (w : World) :
    Calls Tryd.prog 69 #[.int .u8 c.toNat] w fun e w' => e = .returned (.bool (isD c)) ∧ w = w' := by
  by_cases h1 : 48 ≤ (c.toNat : Int)
  · go_enter Tryd.func69, Tryd.ntmps69
    go_wp2
    go_ret
    exact ⟨ret_bool (by unfold isD; rw [Bool.eq_iff_iff]; simp only [decide_eq_true_eq]; omega), rfl⟩
  · go_enter Tryd.func69, Tryd.ntmps69
    go_wp2
    go_ret
    exact ⟨ret_bool (show isD c = false from decide_eq_false (by omega)).symm, rfl⟩

/-- The byte at an index, 0 behind the end. -/
def atI (s : ByteArray) (a : Int) : UInt8 := s.data.toList.getD a.toNat 0

theorem atI_lt (s : ByteArray) (k : Nat) (h : k < s.size) : atI s k = s[k] := by
  unfold atI
  rw [Int.toNat_natCast, List.getD, byte_at s k h]; rfl
theorem atI_ge (s : ByteArray) (k : Nat) (h : s.size ≤ k) : atI s k = 0 := by
  unfold atI
  rw [Int.toNat_natCast, List.getD, List.getElem?_eq_none (by rw [len_bytes]; exact h)]; rfl

theorem ref_at_any (s : ByteArray) (a : Int) (w : World) (h0 : 0 ≤ a) (ha : a ≤ 4611686018427387904) :
    Calls Tryd.prog 86 #[.string s, .int .i64 a] w fun e w' => e = .returned (.int .u8 (atI s a).toNat) ∧ w = w' := by
  obtain ⟨k, rfl⟩ := Int.eq_ofNat_of_zero_le h0
  by_cases hlt : k < s.size
  · have he := Lib.hid (atI_lt s k hlt)
    go_enter Tryd.func86, Tryd.ntmps86
    go_wp2
    go_ret
    exact ⟨by rw [he.out]; rfl, rfl⟩
  · have he := Lib.hid (atI_ge s k (by omega))
    go_enter Tryd.func86, Tryd.ntmps86
    go_wp2
    go_ret
    exact ⟨by rw [he.out]; rfl, rfl⟩

theorem ref_unit_any (c : UInt8) (w : World) :
    Calls Tryd.prog 87 #[.int .u8 c.toNat] w fun e w' => e = .returned (.int .i64 (unitN c)) ∧ w = w' := by
  by_cases h1 : c.toNat = 115
  · have t1 : ((c.toNat : Int) == 115) = true := beq_t (by omega)
    go_enter Tryd.func87, Tryd.ntmps87
    go_wp2
    go_ret
    exact ⟨by unfold unitN; rw [if_pos h1]; rfl, rfl⟩
  have t1 : ((c.toNat : Int) == 115) = false := beq_f (by omega)
  by_cases h2 : c.toNat = 109
  · have t2 : ((c.toNat : Int) == 109) = true := beq_t (by omega)
    go_enter Tryd.func87, Tryd.ntmps87
    go_wp2
    go_ret
    exact ⟨by unfold unitN; rw [if_neg h1, if_pos h2]; rfl, rfl⟩
  have t2 : ((c.toNat : Int) == 109) = false := beq_f (by omega)
  by_cases h3 : c.toNat = 104
  · have t3 : ((c.toNat : Int) == 104) = true := beq_t (by omega)
    go_enter Tryd.func87, Tryd.ntmps87
    go_wp2
    go_ret
    exact ⟨by unfold unitN; rw [if_neg h1, if_neg h2, if_pos h3]; rfl, rfl⟩
  have t3 : ((c.toNat : Int) == 104) = false := beq_f (by omega)
  by_cases h4 : c.toNat = 100
  · have t4 : ((c.toNat : Int) == 100) = true := beq_t (by omega)
    go_enter Tryd.func87, Tryd.ntmps87
    go_wp2
    go_ret
    exact ⟨by unfold unitN; rw [if_neg h1, if_neg h2, if_neg h3, if_pos h4]; rfl, rfl⟩
  have t4 : ((c.toNat : Int) == 100) = false := beq_f (by omega)
  go_enter Tryd.func87, Tryd.ntmps87
  go_wp2
  go_ret
  exact ⟨by unfold unitN; rw [if_neg h1, if_neg h2, if_neg h3, if_neg h4]; rfl, rfl⟩

theorem drop_atI (s : ByteArray) (k : Nat) (h : k < s.size) : s.data.toList.drop k = atI s k :: s.data.toList.drop (k + 1) := by
  rw [drop_at s k h, atI_lt s k h]
theorem headE_atI (s : ByteArray) (k : Nat) : headE (s.data.toList.drop k) = isE (atI s k) := by
  rcases Nat.lt_or_ge k s.size with h | h
  · rw [drop_atI s k h]; rfl
  · rw [List.drop_eq_nil_of_le (by rw [len_bytes]; exact h), atI_ge s k h]; rfl

set_option maxRecDepth 100000 in
set_option maxHeartbeats 1000000 in
theorem ref_word_any (s : ByteArray) (i : Nat) (w : World) (hs : s.size ≤ 1048576) (hi : i ≤ s.size) :
    Calls Tryd.prog 68 #[.string s, .int .i64 i] w fun e w' => e = .returned (.int .i64 (i + wordL (s.data.toList.drop i) : Nat)) ∧ w = w' := by
  go_enter Tryd.func68, Tryd.ntmps68
  go_wp2_with fail
  go_loop [1] (fun a => ∃ k : Nat, k ≤ s.size ∧ a = .int .i64 k ∧ Hid (i + wordL (s.data.toList.drop i) = k + wordL (s.data.toList.drop k))) (fun a => s.size - (intOf a).toNat)
  case atStart => exact ⟨i, hi, rfl, rfl⟩
  case round =>
    obtain ⟨k, hk, rfl, hp⟩ := hrel
    have he1 : Hid (isE (atI s k) = (isL (atI s k) || isD (atI s k))) := rfl
    have he2 : Hid (isE (atI s (k + 1)) = (isL (atI s (k + 1)) || isD (atI s (k + 1)))) := rfl
    have hh : Hid (headE (s.data.toList.drop (k + 1)) = isE (atI s (k + 1))) := by
      have := headE_atI s (k + 1)
      unfold Hid; rw [this]; rfl
    by_cases hc : isE (atI s k) || (((atI s k).toNat == 45) && isE (atI s (k + 1)))
    · have hlt : k < s.size := by
        rcases Nat.lt_or_ge k s.size with h | h
        · exact h
        · rw [atI_ge s k h] at hc
          exact absurd hc (by simp [isE, isL, isD])
      have hn : Hid (i + wordL (s.data.toList.drop i) = (k + 1 : Nat) + wordL (s.data.toList.drop (k + 1))) := by
        have h1 := hp.out
        rw [drop_atI s k hlt] at h1
        simp only [wordL] at h1
        rw [hh.out, hc] at h1
        simp only [cond_true] at h1
        unfold Hid; omega
      cases h1 : isL (atI s k)
      · cases h2 : isD (atI s k)
        · have h3 : (atI s k).toNat = 45 ∧ isE (atI s (k + 1)) = true := by
            rw [he1.out, h1, h2] at hc
            simpa using hc
          obtain ⟨h3, h4⟩ := h3
          have t1 : (((atI s k).toNat : Int) == 45) = true := beq_t (by omega)
          clear hc h3
          cases h5 : isL (atI s (k + 1))
          · have h6 : isD (atI s (k + 1)) = true := by rw [he2.out, h5] at h4; simpa using h4
            go_wp2_with (first | (go_at_call 86; refine (ref_at_any _ _ _ (by omega) (by omega)).mono ?_; rintro e w' ⟨rfl, rfl⟩) | (go_at_call 67; refine (ref_letter_any _ _).mono ?_; rintro e w' ⟨rfl, rfl⟩) | (go_at_call 69; refine (ref_digit_any _ _).mono ?_; rintro e w' ⟨rfl, rfl⟩))
            go_round
            case rel => exact ⟨k + 1, by omega, by go_num, hn⟩
            case measure => simp [intOf]; omega
          · go_wp2_with (first | (go_at_call 86; refine (ref_at_any _ _ _ (by omega) (by omega)).mono ?_; rintro e w' ⟨rfl, rfl⟩) | (go_at_call 67; refine (ref_letter_any _ _).mono ?_; rintro e w' ⟨rfl, rfl⟩) | (go_at_call 69; refine (ref_digit_any _ _).mono ?_; rintro e w' ⟨rfl, rfl⟩))
            go_round
            case rel => exact ⟨k + 1, by omega, by go_num, hn⟩
            case measure => simp [intOf]; omega
        · clear hc
          go_wp2_with (first | (go_at_call 86; refine (ref_at_any _ _ _ (by omega) (by omega)).mono ?_; rintro e w' ⟨rfl, rfl⟩) | (go_at_call 67; refine (ref_letter_any _ _).mono ?_; rintro e w' ⟨rfl, rfl⟩) | (go_at_call 69; refine (ref_digit_any _ _).mono ?_; rintro e w' ⟨rfl, rfl⟩))
          go_round
          case rel => exact ⟨k + 1, by omega, by go_num, hn⟩
          case measure => simp [intOf]; omega
      · clear hc
        go_wp2_with (first | (go_at_call 86; refine (ref_at_any _ _ _ (by omega) (by omega)).mono ?_; rintro e w' ⟨rfl, rfl⟩) | (go_at_call 67; refine (ref_letter_any _ _).mono ?_; rintro e w' ⟨rfl, rfl⟩) | (go_at_call 69; refine (ref_digit_any _ _).mono ?_; rintro e w' ⟨rfl, rfl⟩))
        go_round
        case rel => exact ⟨k + 1, by omega, by go_num, hn⟩
        case measure => simp [intOf]; omega
    · have hz : Hid (i + wordL (s.data.toList.drop i) = k) := by
        have h1 := hp.out
        have hc0 : (isE (atI s k) || (((atI s k).toNat == 45) && isE (atI s (k + 1)))) = false := by simpa using hc
        unfold Hid
        rcases Nat.lt_or_ge k s.size with hlt | hge
        · rw [drop_atI s k hlt] at h1
          simp only [wordL] at h1
          rw [hh.out, hc0] at h1
          exact h1
        · have h2 : s.data.toList.drop k = [] := List.drop_eq_nil_of_le (by rw [len_bytes]; exact hge)
          rw [h2] at h1
          exact h1
      have hc' : isL (atI s k) = false ∧ isD (atI s k) = false ∧ ((atI s k).toNat = 45 → isL (atI s (k + 1)) = false ∧ isD (atI s (k + 1)) = false) := by
        rw [he1.out, he2.out] at hc
        simp only [Bool.or_eq_true, Bool.and_eq_true, beq_iff_eq, not_or, Bool.not_eq_true, not_and] at hc
        exact ⟨hc.1.1, hc.1.2, fun h => hc.2 h⟩
      obtain ⟨h1, h2, h3⟩ := hc'
      clear hc
      by_cases h45 : (atI s k).toNat = 45
      · obtain ⟨h5, h6⟩ := h3 h45
        clear h3
        have t1 : (((atI s k).toNat : Int) == 45) = true := beq_t (by omega)
        clear h45
        go_wp2_with (first | (go_at_call 86; refine (ref_at_any _ _ _ (by omega) (by omega)).mono ?_; rintro e w' ⟨rfl, rfl⟩) | (go_at_call 67; refine (ref_letter_any _ _).mono ?_; rintro e w' ⟨rfl, rfl⟩) | (go_at_call 69; refine (ref_digit_any _ _).mono ?_; rintro e w' ⟨rfl, rfl⟩))
        go_ret
        exact ⟨ret_int (by rw [hz.out]), rfl⟩
      · clear h3
        have t1 : (((atI s k).toNat : Int) == 45) = false := beq_f (by omega)
        go_wp2_with (first | (go_at_call 86; refine (ref_at_any _ _ _ (by omega) (by omega)).mono ?_; rintro e w' ⟨rfl, rfl⟩) | (go_at_call 67; refine (ref_letter_any _ _).mono ?_; rintro e w' ⟨rfl, rfl⟩) | (go_at_call 69; refine (ref_digit_any _ _).mono ?_; rintro e w' ⟨rfl, rfl⟩))
        go_ret
        exact ⟨ret_int (by rw [hz.out]), rfl⟩
end Go.Proofs.YtemhiiignamkjaaDoor
