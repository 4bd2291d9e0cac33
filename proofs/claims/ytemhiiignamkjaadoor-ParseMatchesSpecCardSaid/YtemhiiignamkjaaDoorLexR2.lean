/-
  The walks of layer 11's specification: blanks, numbers, signs.
-/
import Derived.Test.YtemhiiignamkjaaDoorLexR1
import Derived.Test.YtemhiiignamkjaaDoorLexW3
namespace Go.Proofs.YtemhiiignamkjaaDoor
open Go.RowKit LexP

theorem runL_zero (p : UInt8 → Bool) (l : List UInt8) (h : ∀ c r, l = c :: r → p c = false) : runL p l = 0 := by
  cases l with
  | nil => rfl
  | cons c r => simp [runL, h c r rfl]

set_option maxRecDepth 100000 in
set_option maxHeartbeats 1000000 in
theorem ref_skip_any (s : ByteArray) (i : Nat) (w : World) (hs : s.size ≤ 1048576) (hi : i ≤ s.size) :
    Calls Tryd.prog 48 #[.string s, .int .i64 i] w fun e w' => e = .returned (.int .i64 (i + skipB false (s.data.toList.drop i) : Nat)) ∧ w = w' := by
  go_enter Tryd.func48, Tryd.ntmps48
  go_wp2_with fail
  go_loop [1, 5] (fun a _ => ∃ k : Nat, k ≤ s.size ∧ a = .int .i64 k ∧ Hid (i + skipB false (s.data.toList.drop i) = k + skipB false (s.data.toList.drop k))) (fun a _ => s.size - (intOf a).toNat)
  case atStart => exact ⟨i, hi, rfl, rfl⟩
  case round =>
    obtain ⟨k, hk, rfl, hp⟩ := hrel
    by_cases hlt : k < s.size
    · have HD := Lib.hid (drop_at s k hlt)
      by_cases h35 : s[k].toNat = 35
      · have t1 : ((s[k].toNat : Int) == 35) = true := beq_t (by omega)
        have hn0 : Hid (i + skipB false (s.data.toList.drop i) = k + skipB true (s.data.toList.drop k)) := by
          have h1 := hp.out
          have e : skipB false (s.data.toList.drop k) = skipB true (s.data.toList.drop k) := by
            rw [HD.out]
            have h2 : isBlank s[k] = false := by unfold isBlank; rw [h35]; rfl
            simp only [skipB, h2, cond_false, h35]
            rfl
          rw [e] at h1
          exact h1
        have t2 : ((s[k].toNat : Int) == 10) = false := beq_f (by omega)
        have t3 : Hid (s[k].toNat ≠ 10) := by unfold Hid; omega
        clear h35
        go_wp2_with fail
        go_loop [1] (fun a => ∃ j : Nat, j ≤ s.size ∧ k ≤ j ∧ a = .int .i64 j ∧ Hid (i + skipB false (s.data.toList.drop i) = j + skipB true (s.data.toList.drop j))) (fun a => s.size - (intOf a).toNat)
        case atStart => exact ⟨k, hk, Nat.le_refl _, rfl, hn0⟩
        case round =>
          obtain ⟨j, hj, hkj, rfl, hp2⟩ := hrel
          by_cases hjl : j < s.size
          · have HDj := Lib.hid (drop_at s j hjl)
            by_cases h10 : s[j].toNat = 10
            · have hjk : k < j := by
                rcases Nat.lt_or_ge k j with h | h
                · exact h
                · have : j = k := by omega
                  subst this
                  exact absurd h10 t3.out
              have t4 : ((s[j].toNat : Int) != 10) = false := by rw [bne_eq_false_iff_eq]; omega
              have hn : Hid (i + skipB false (s.data.toList.drop i) = j + skipB false (s.data.toList.drop j)) := by
                have h1 := hp2.out
                have e : skipB true (s.data.toList.drop j) = skipB false (s.data.toList.drop j) := by
                  rw [HDj.out]
                  have h2 : isBlank s[j] = true := by unfold isBlank; rw [h10]; rfl
                  simp only [skipB, h2, cond_true, h10]
                  rfl
                rw [e] at h1
                exact h1
              clear h10
              go_wp2_with fail
              go_round
              case rel => exact ⟨j, by omega, rfl, hn⟩
              case measure => simp [intOf]; omega
            · have t4 : ((s[j].toNat : Int) != 10) = true := by rw [bne_iff_ne]; omega
              have hn : Hid (i + skipB false (s.data.toList.drop i) = (j + 1 : Nat) + skipB true (s.data.toList.drop (j + 1))) := by
                have h1 := hp2.out
                rw [HDj.out] at h1
                have h2 : (s[j].toNat == 10) = false := beq_eq_false_iff_ne.2 h10
                simp only [skipB, h2, cond_false] at h1
                unfold Hid; omega
              go_wp2_with fail
              go_round
              case rel => exact ⟨j + 1, by omega, by omega, by go_num, hn⟩
              case measure => simp [intOf]; omega
          · have hn : Hid (i + skipB false (s.data.toList.drop i) = j + skipB false (s.data.toList.drop j)) := by
              have h1 := hp2.out
              have h2 : s.data.toList.drop j = [] := List.drop_eq_nil_of_le (by rw [len_bytes]; omega)
              unfold Hid
              rw [h2] at h1 ⊢
              exact h1
            go_wp2_with fail
            go_round
            case rel => exact ⟨j, by omega, rfl, hn⟩
            case measure => simp [intOf]; omega
      · have t1 : ((s[k].toNat : Int) == 35) = false := beq_f (by omega)
        by_cases hb : s[k].toNat = 32 ∨ s[k].toNat = 9 ∨ s[k].toNat = 10
        · have hn : Hid (i + skipB false (s.data.toList.drop i) = (k + 1 : Nat) + skipB false (s.data.toList.drop (k + 1))) := by
            have h1 := hp.out
            rw [HD.out, skipB_blank _ _ (by unfold isBlank; rcases hb with h | h | h <;> simp [h])] at h1
            unfold Hid; omega
          rcases hb with h | h | h
          · have t2 : ((s[k].toNat : Int) == 32) = true := beq_t (by omega)
            clear h
            go_wp2_with fail
            go_round
            case rel => exact ⟨k + 1, by omega, by go_num, hn⟩
            case measure => simp [intOf]; omega
          · have t2 : ((s[k].toNat : Int) == 32) = false := beq_f (by omega)
            have t3 : ((s[k].toNat : Int) == 9) = true := beq_t (by omega)
            clear h
            go_wp2_with fail
            go_round
            case rel => exact ⟨k + 1, by omega, by go_num, hn⟩
            case measure => simp [intOf]; omega
          · have t2 : ((s[k].toNat : Int) == 32) = false := beq_f (by omega)
            have t3 : ((s[k].toNat : Int) == 9) = false := beq_f (by omega)
            have t4 : ((s[k].toNat : Int) == 10) = true := beq_t (by omega)
            clear h
            go_wp2_with fail
            go_round
            case rel => exact ⟨k + 1, by omega, by go_num, hn⟩
            case measure => simp [intOf]; omega
        · have t2 : ((s[k].toNat : Int) == 32) = false := beq_f (by omega)
          have t3 : ((s[k].toNat : Int) == 9) = false := beq_f (by omega)
          have t4 : ((s[k].toNat : Int) == 10) = false := beq_f (by omega)
          have hn : Hid (i + skipB false (s.data.toList.drop i) = k) := by
            have h1 := hp.out
            have hb2 : isBlank s[k] = false := by unfold isBlank; simp; omega
            rw [HD.out, skipB_stop _ _ hb2 h35] at h1
            exact h1
          go_wp2_with fail
          go_ret
          exact ⟨ret_int (by have := hn.out; omega), rfl⟩
    · have hn : Hid (i + skipB false (s.data.toList.drop i) = k) := by
        have h1 := hp.out
        have h2 : s.data.toList.drop k = [] := List.drop_eq_nil_of_le (by rw [len_bytes]; omega)
        rw [h2] at h1
        exact h1
      go_wp2_with fail
      go_ret
      exact ⟨ret_int (by have := hn.out; omega), rfl⟩
end Go.Proofs.YtemhiiignamkjaaDoor
