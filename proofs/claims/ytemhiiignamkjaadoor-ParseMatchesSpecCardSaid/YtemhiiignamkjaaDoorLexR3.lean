/-
  The walk of layer 11's specification: numbers.
-/
import Derived.Test.YtemhiiignamkjaaDoorLexR2
namespace Go.Proofs.YtemhiiignamkjaaDoor
open Go.RowKit LexP

theorem headU_atI (s : ByteArray) (k : Nat) : headU (s.data.toList.drop k) = unitN (atI s k) := by
  rcases Nat.lt_or_ge k s.size with h | h
  · rw [drop_atI s k h]; rfl
  · rw [List.drop_eq_nil_of_le (by rw [len_bytes]; exact h), atI_ge s k h]; rfl
theorem cast_min_mul (V u : Nat) : min ((V : Int) * (u : Int)) 1099511627777 = ((min (V * u) 1099511627777 : Nat) : Int) := by
  rw [← Int.natCast_mul]; omega
theorem unitN_le (c : UInt8) : unitN c ≤ 86400 := by
  unfold unitN
  repeat' split
  all_goals omega

theorem runD_in (s : ByteArray) (i j : Nat) (h : j < runL isD (s.data.toList.drop i)) : i + j < s.size ∧ isD (atI s (i + j : Nat)) = true := by
  have h1 := runL_le isD (s.data.toList.drop i)
  rw [List.length_drop, len_bytes] at h1
  have hlt : i + j < s.size := by omega
  refine ⟨hlt, runL_spec isD (s.data.toList.drop i) j _ h ?_⟩
  rw [List.getElem?_drop, byte_at s _ hlt, atI_lt s _ hlt]
theorem runD_out (s : ByteArray) (i : Nat) : isD (atI s (i + runL isD (s.data.toList.drop i) : Nat)) = false := by
  rcases Nat.lt_or_ge (i + runL isD (s.data.toList.drop i)) s.size with h | h
  · refine runL_at isD (s.data.toList.drop i) _ ?_
    rw [List.getElem?_drop, byte_at s _ h, atI_lt s _ h]
  · rw [atI_ge s _ h]; rfl

set_option maxRecDepth 100000 in
set_option maxHeartbeats 4000000 in
theorem ref_number_any (s : ByteArray) (i : Nat) (w : World) (hs : s.size ≤ 1048576) (hi : i < s.size) :
    Calls Tryd.prog 70 #[.string s, .int .i64 i] w fun e w' => e = .returned (.tuple #[.int .i64 (i + (numberL (s.data.toList.drop i)).1 : Nat), .int .i64 (numberL (s.data.toList.drop i)).2]) ∧ w = w' := by
  have hle := runL_le isD (s.data.toList.drop i)
  rw [List.length_drop, len_bytes] at hle
  obtain ⟨R, hR⟩ : ∃ R, runL isD (s.data.toList.drop i) = R := ⟨_, rfl⟩
  have hin : ∀ j, j < R → i + j < s.size ∧ isD (atI s ((i : Int) + j)) = true := fun j h => runD_in s i j (by rw [hR]; exact h)
  have hout : isD (atI s ((i : Int) + R)) = false := by rw [← hR]; exact runD_out s i
  rw [hR] at hle
  have HR := Lib.hid hR
  have Hin := Lib.hid hin
  have Hout := Lib.hid hout
  clear hR hin hout
  go_enter Tryd.func70, Tryd.ntmps70
  go_wp2_with fail
  go_loop [6, 7] (fun a v => ∃ j : Nat, j ≤ R ∧ a = .int .i64 (i + j : Nat) ∧ v = .int .i64 (valL 0 ((s.data.toList.drop i).take j))) (fun a _ => (i + R) - (intOf a).toNat)
  case atStart => exact ⟨0, Nat.zero_le _, rfl, rfl⟩
  case round =>
    obtain ⟨j, hj, rfl, rfl⟩ := hrel
    have hv := valL_le 0 (by omega) ((s.data.toList.drop i).take j)
    by_cases hlt : j < R
    · obtain ⟨h1, h2⟩ := Hin.out j hlt
      have hb : Hid (atI s ((i : Int) + j) = s[i + j]'h1) := atI_lt s _ h1
      have hd : 48 ≤ ((s[i + j]'h1).toNat : Int) ∧ ((s[i + j]'h1).toNat : Int) ≤ 57 := by
        rw [hb.out] at h2
        unfold isD at h2; simp only [decide_eq_true_eq] at h2; omega
      obtain ⟨hd1, hd2⟩ := hd
      have hn : Hid (valL 0 ((s.data.toList.drop i).take (j + 1)) = min (10 * valL 0 ((s.data.toList.drop i).take j) + ((s[i + j]'h1).toNat - 48)) 1099511627777) := by
        unfold Hid
        rw [List.take_add_one, List.getElem?_drop, byte_at s _ h1]
        exact valL_snoc _ _ _
      go_wp2_with (first | (go_at_call 86; refine (ref_at_any _ _ _ (by omega) (by omega)).mono ?_; rintro e w' ⟨rfl, rfl⟩) | (go_at_call 69; refine (ref_digit_any _ _).mono ?_; rintro e w' ⟨rfl, rfl⟩))
      go_round
      case rel => exact ⟨j + 1, by omega, by go_num, by rw [hn.out]; go_num⟩
      case measure => simp [intOf]; omega
    · obtain rfl : j = R := by omega
      obtain ⟨V, hV⟩ : ∃ V, valL 0 ((s.data.toList.drop i).take j) = V := ⟨_, rfl⟩
      have HV := Lib.hid hV
      rw [hV] at hv ⊢
      clear hV
      have hbi := Lib.hid (byte_at s i hi)
      have hD := Hout.out
      have hhead : Hid ((s.data.toList.drop i).head? = some s[i]) := by unfold Hid; rw [drop_at s i hi]; rfl
      by_cases hz : 1 < j ∧ s[i].toNat = 48
      · obtain ⟨h1, h2⟩ := hz
        have t1 : ((s[i].toNat : Int) == 48) = true := beq_t (by omega)
        have hn : Hid (numberL (s.data.toList.drop i) = (0, 0)) := by
          unfold Hid numberL
          rw [HR.out, if_pos ⟨h1, by rw [hhead.out, show s[i] = 48 from UInt8.toNat_inj.1 h2]⟩]
        clear h2
        go_wp2_with (first | (go_at_call 86; refine (ref_at_any _ _ _ (by omega) (by omega)).mono ?_; rintro e w' ⟨rfl, rfl⟩) | (go_at_call 69; refine (ref_digit_any _ _).mono ?_; rintro e w' ⟨rfl, rfl⟩) | (go_at_call 67; refine (ref_letter_any _ _).mono ?_; rintro e w' ⟨rfl, rfl⟩) | (go_at_call 87; refine (ref_unit_any _ _).mono ?_; rintro e w' ⟨rfl, rfl⟩))
        go_ret2
        exact ⟨by rw [hn.out]; rfl, rfl⟩
      · have hn0 : Hid (numberL (s.data.toList.drop i) = if 0 < headU ((s.data.toList.drop i).drop j) then
            (if headE ((s.data.toList.drop i).drop (j + 1)) then (0, 0) else (j + 1, min (V * headU ((s.data.toList.drop i).drop j)) 1099511627777))
            else (if headE ((s.data.toList.drop i).drop j) then (0, 0) else (j, V))) := by
          unfold Hid numberL
          rw [HR.out, if_neg (by rw [hhead.out]; intro h; exact hz ⟨h.1, by have := h.2; simp at this; rw [this]; rfl⟩), HV.out]
        have hn : Hid (numberL (s.data.toList.drop i) = if 0 < unitN (atI s ((i : Int) + j)) then
            (if isE (atI s ((i : Int) + j + 1)) then (0, 0) else (j + 1, min (V * unitN (atI s ((i : Int) + j))) 1099511627777))
            else (if isE (atI s ((i : Int) + j)) then (0, 0) else (j, V))) := by
          have e1 := headU_atI s (i + j)
          have e2 := headE_atI s (i + j)
          have e3 := headE_atI s (i + (j + 1))
          unfold Hid
          rw [hn0.out, List.drop_drop, List.drop_drop, e1, e2, e3]
          rfl
        have hB : (1 < j ∧ s[i].toNat ≠ 48) ∨ ¬ 1 < j := by
          by_cases h1 : 1 < j
          · exact .inl ⟨h1, fun h => hz ⟨h1, h⟩⟩
          · exact .inr h1
        clear hz hn0
        have hu := unitN_le (atI s ((i : Int) + j))
        have he1 : Hid (isE (atI s ((i : Int) + j)) = (isL (atI s ((i : Int) + j)) || isD (atI s ((i : Int) + j)))) := rfl
        have he2 : Hid (isE (atI s ((i : Int) + j + 1)) = (isL (atI s ((i : Int) + j + 1)) || isD (atI s ((i : Int) + j + 1)))) := rfl
        have hmul : V * unitN (atI s ((i : Int) + j)) ≤ 1099511627777 * 86400 := Nat.mul_le_mul (by omega) hu
        rcases hB with ⟨h1, h2⟩ | h1
        · have t1 : ((s[i].toNat : Int) == 48) = false := beq_f (by omega)
          clear h2
          by_cases hup : 0 < unitN (atI s ((i : Int) + j))
          · cases h3 : isL (atI s ((i : Int) + j + 1))
            · cases h4 : isD (atI s ((i : Int) + j + 1))
              · have hf : Hid (numberL (s.data.toList.drop i) = (j + 1, min (V * unitN (atI s ((i : Int) + j))) 1099511627777)) := by
                  unfold Hid; rw [hn.out, if_pos hup, he2.out, h3, h4]; rfl
                go_wp2_with (first | (go_at_call 86; refine (ref_at_any _ _ _ (by omega) (by omega)).mono ?_; rintro e w' ⟨rfl, rfl⟩) | (go_at_call 69; refine (ref_digit_any _ _).mono ?_; rintro e w' ⟨rfl, rfl⟩) | (go_at_call 67; refine (ref_letter_any _ _).mono ?_; rintro e w' ⟨rfl, rfl⟩) | (go_at_call 87; refine (ref_unit_any _ _).mono ?_; rintro e w' ⟨rfl, rfl⟩))
                go_ret2
                exact ⟨by rw [hf.out]; exact ret_int2 (by simp; omega) (cast_min_mul _ _), rfl⟩
              · have hf : Hid (numberL (s.data.toList.drop i) = (0, 0)) := by
                  unfold Hid; rw [hn.out, if_pos hup, he2.out, h3, h4]; rfl
                go_wp2_with (first | (go_at_call 86; refine (ref_at_any _ _ _ (by omega) (by omega)).mono ?_; rintro e w' ⟨rfl, rfl⟩) | (go_at_call 69; refine (ref_digit_any _ _).mono ?_; rintro e w' ⟨rfl, rfl⟩) | (go_at_call 67; refine (ref_letter_any _ _).mono ?_; rintro e w' ⟨rfl, rfl⟩) | (go_at_call 87; refine (ref_unit_any _ _).mono ?_; rintro e w' ⟨rfl, rfl⟩))
                go_ret2
                exact ⟨by rw [hf.out]; rfl, rfl⟩
            · have hf : Hid (numberL (s.data.toList.drop i) = (0, 0)) := by
                unfold Hid; rw [hn.out, if_pos hup, he2.out, h3]; rfl
              go_wp2_with (first | (go_at_call 86; refine (ref_at_any _ _ _ (by omega) (by omega)).mono ?_; rintro e w' ⟨rfl, rfl⟩) | (go_at_call 69; refine (ref_digit_any _ _).mono ?_; rintro e w' ⟨rfl, rfl⟩) | (go_at_call 67; refine (ref_letter_any _ _).mono ?_; rintro e w' ⟨rfl, rfl⟩) | (go_at_call 87; refine (ref_unit_any _ _).mono ?_; rintro e w' ⟨rfl, rfl⟩))
              go_ret2
              exact ⟨by rw [hf.out]; rfl, rfl⟩
          · cases h3 : isL (atI s ((i : Int) + j))
            · have hf : Hid (numberL (s.data.toList.drop i) = (j, V)) := by
                unfold Hid; rw [hn.out, if_neg hup, he1.out, h3, hD]; rfl
              go_wp2_with (first | (go_at_call 86; refine (ref_at_any _ _ _ (by omega) (by omega)).mono ?_; rintro e w' ⟨rfl, rfl⟩) | (go_at_call 69; refine (ref_digit_any _ _).mono ?_; rintro e w' ⟨rfl, rfl⟩) | (go_at_call 67; refine (ref_letter_any _ _).mono ?_; rintro e w' ⟨rfl, rfl⟩) | (go_at_call 87; refine (ref_unit_any _ _).mono ?_; rintro e w' ⟨rfl, rfl⟩))
              go_ret2
              exact ⟨by rw [hf.out]; exact ret_int2 (by simp) rfl, rfl⟩
            · have hf : Hid (numberL (s.data.toList.drop i) = (0, 0)) := by
                unfold Hid; rw [hn.out, if_neg hup, he1.out, h3]; rfl
              go_wp2_with (first | (go_at_call 86; refine (ref_at_any _ _ _ (by omega) (by omega)).mono ?_; rintro e w' ⟨rfl, rfl⟩) | (go_at_call 69; refine (ref_digit_any _ _).mono ?_; rintro e w' ⟨rfl, rfl⟩) | (go_at_call 67; refine (ref_letter_any _ _).mono ?_; rintro e w' ⟨rfl, rfl⟩) | (go_at_call 87; refine (ref_unit_any _ _).mono ?_; rintro e w' ⟨rfl, rfl⟩))
              go_ret2
              exact ⟨by rw [hf.out]; rfl, rfl⟩
        · by_cases hup : 0 < unitN (atI s ((i : Int) + j))
          · cases h3 : isL (atI s ((i : Int) + j + 1))
            · cases h4 : isD (atI s ((i : Int) + j + 1))
              · have hf : Hid (numberL (s.data.toList.drop i) = (j + 1, min (V * unitN (atI s ((i : Int) + j))) 1099511627777)) := by
                  unfold Hid; rw [hn.out, if_pos hup, he2.out, h3, h4]; rfl
                go_wp2_with (first | (go_at_call 86; refine (ref_at_any _ _ _ (by omega) (by omega)).mono ?_; rintro e w' ⟨rfl, rfl⟩) | (go_at_call 69; refine (ref_digit_any _ _).mono ?_; rintro e w' ⟨rfl, rfl⟩) | (go_at_call 67; refine (ref_letter_any _ _).mono ?_; rintro e w' ⟨rfl, rfl⟩) | (go_at_call 87; refine (ref_unit_any _ _).mono ?_; rintro e w' ⟨rfl, rfl⟩))
                go_ret2
                exact ⟨by rw [hf.out]; exact ret_int2 (by simp; omega) (cast_min_mul _ _), rfl⟩
              · have hf : Hid (numberL (s.data.toList.drop i) = (0, 0)) := by
                  unfold Hid; rw [hn.out, if_pos hup, he2.out, h3, h4]; rfl
                go_wp2_with (first | (go_at_call 86; refine (ref_at_any _ _ _ (by omega) (by omega)).mono ?_; rintro e w' ⟨rfl, rfl⟩) | (go_at_call 69; refine (ref_digit_any _ _).mono ?_; rintro e w' ⟨rfl, rfl⟩) | (go_at_call 67; refine (ref_letter_any _ _).mono ?_; rintro e w' ⟨rfl, rfl⟩) | (go_at_call 87; refine (ref_unit_any _ _).mono ?_; rintro e w' ⟨rfl, rfl⟩))
                go_ret2
                exact ⟨by rw [hf.out]; rfl, rfl⟩
            · have hf : Hid (numberL (s.data.toList.drop i) = (0, 0)) := by
                unfold Hid; rw [hn.out, if_pos hup, he2.out, h3]; rfl
              go_wp2_with (first | (go_at_call 86; refine (ref_at_any _ _ _ (by omega) (by omega)).mono ?_; rintro e w' ⟨rfl, rfl⟩) | (go_at_call 69; refine (ref_digit_any _ _).mono ?_; rintro e w' ⟨rfl, rfl⟩) | (go_at_call 67; refine (ref_letter_any _ _).mono ?_; rintro e w' ⟨rfl, rfl⟩) | (go_at_call 87; refine (ref_unit_any _ _).mono ?_; rintro e w' ⟨rfl, rfl⟩))
              go_ret2
              exact ⟨by rw [hf.out]; rfl, rfl⟩
          · cases h3 : isL (atI s ((i : Int) + j))
            · have hf : Hid (numberL (s.data.toList.drop i) = (j, V)) := by
                unfold Hid; rw [hn.out, if_neg hup, he1.out, h3, hD]; rfl
              go_wp2_with (first | (go_at_call 86; refine (ref_at_any _ _ _ (by omega) (by omega)).mono ?_; rintro e w' ⟨rfl, rfl⟩) | (go_at_call 69; refine (ref_digit_any _ _).mono ?_; rintro e w' ⟨rfl, rfl⟩) | (go_at_call 67; refine (ref_letter_any _ _).mono ?_; rintro e w' ⟨rfl, rfl⟩) | (go_at_call 87; refine (ref_unit_any _ _).mono ?_; rintro e w' ⟨rfl, rfl⟩))
              go_ret2
              exact ⟨by rw [hf.out]; exact ret_int2 (by simp) rfl, rfl⟩
            · have hf : Hid (numberL (s.data.toList.drop i) = (0, 0)) := by
                unfold Hid; rw [hn.out, if_neg hup, he1.out, h3]; rfl
              go_wp2_with (first | (go_at_call 86; refine (ref_at_any _ _ _ (by omega) (by omega)).mono ?_; rintro e w' ⟨rfl, rfl⟩) | (go_at_call 69; refine (ref_digit_any _ _).mono ?_; rintro e w' ⟨rfl, rfl⟩) | (go_at_call 67; refine (ref_letter_any _ _).mono ?_; rintro e w' ⟨rfl, rfl⟩) | (go_at_call 87; refine (ref_unit_any _ _).mono ?_; rintro e w' ⟨rfl, rfl⟩))
              go_ret2
              exact ⟨by rw [hf.out]; rfl, rfl⟩
end Go.Proofs.YtemhiiignamkjaaDoor
