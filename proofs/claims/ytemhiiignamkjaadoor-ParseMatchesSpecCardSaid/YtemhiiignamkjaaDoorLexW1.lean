/-
  The walks of layer 11 (lex): the classes of bytes, and the longest beginning of a text whose bytes satisfy a condition.
-/
import Derived.Test.YtemhiiignamkjaaDoorRows
import Derived.Test.YtemhiiignamkjaaDoorMA
import Derived.WalkKit
import Derived.WalkSpells
import Derived.WalkLawsBesides
import Derived.Lib.Hide
namespace Go.Proofs.YtemhiiignamkjaaDoor
open Go.RowKit LexP

theorem ret_bool {a b : Bool} (h : a = b) : Ending.returned (.bool a) = .returned (.bool b) := by rw [h]
theorem ret_int {k : IntKind} {a b : Int} (h : a = b) : Ending.returned (.int k a) = .returned (.int k b) := by rw [h]

theorem letter_any (c : UInt8) (w : World) :
    Calls Tryd.prog 74 #[.int .u8 c.toNat] w fun e w' => e = .returned (.bool (isL c)) ∧ w = w' := by
  by_cases h1 : 97 ≤ (c.toNat : Int)
  · go_enter Tryd.func74, Tryd.ntmps74
    go_wp2
    go_ret
    exact ⟨ret_bool (by unfold isL; rw [Bool.eq_iff_iff]; simp only [decide_eq_true_eq]; omega), rfl⟩
  · go_enter Tryd.func74, Tryd.ntmps74
    go_wp2
    go_ret
    exact ⟨ret_bool (show isL c = false from decide_eq_false (by omega)).symm, rfl⟩
theorem digit_any (c : UInt8) (w : World) :
    Calls Tryd.prog 76 #[.int .u8 c.toNat] w fun e w' => e = .returned (.bool (isD c)) ∧ w = w' := by
  by_cases h1 : 48 ≤ (c.toNat : Int)
  · go_enter Tryd.func76, Tryd.ntmps76
    go_wp2
    go_ret
    exact ⟨ret_bool (by unfold isD; rw [Bool.eq_iff_iff]; simp only [decide_eq_true_eq]; omega), rfl⟩
  · go_enter Tryd.func76, Tryd.ntmps76
    go_wp2
    go_ret
    exact ⟨ret_bool (show isD c = false from decide_eq_false (by omega)).symm, rfl⟩
theorem either_any (c : UInt8) (w : World) :
    Calls Tryd.prog 88 #[.int .u8 c.toNat] w fun e w' => e = .returned (.bool (isE c)) ∧ w = w' := by
  have hE : isE c = (isL c || isD c) := rfl
  have HE := Lib.hid hE
  clear hE
  cases h1 : isL c
  · go_enter Tryd.func88, Tryd.ntmps88
    go_wp2_with (first | (go_at_call 74; refine (letter_any _ _).mono ?_; rintro e w' ⟨rfl, rfl⟩) | (go_at_call 76; refine (digit_any _ _).mono ?_; rintro e w' ⟨rfl, rfl⟩))
    go_ret
    exact ⟨ret_bool (by rw [HE.out, h1]; simp), rfl⟩
  · go_enter Tryd.func88, Tryd.ntmps88
    go_wp2_with (first | (go_at_call 74; refine (letter_any _ _).mono ?_; rintro e w' ⟨rfl, rfl⟩) | (go_at_call 76; refine (digit_any _ _).mono ?_; rintro e w' ⟨rfl, rfl⟩))
    go_ret
    exact ⟨ret_bool (by rw [HE.out, h1]; simp), rfl⟩
theorem nl_any (c : UInt8) (w : World) :
    Calls Tryd.prog 73 #[.int .u8 c.toNat] w fun e w' => e = .returned (.bool (notNl c)) ∧ w = w' := by
  unfold notNl
  go_enter Tryd.func73, Tryd.ntmps73
  go_wp2
  go_ret
  exact ⟨ret_bool (by rw [Bool.eq_iff_iff]; simp only [bne_iff_ne, ne_eq, Bool.not_eq_true', beq_eq_false_iff_ne]; omega), rfl⟩

theorem len_bytes (s : ByteArray) : s.data.toList.length = s.size := Array.length_toList

/-- 'run' with a condition that only computes. -/
theorem run_any (p : UInt8 → Bool) (f : Nat) (hcall : ∀ args w, (callFunc f args).run Tryd.prog w = .ok (.enter f args) w) (hf : ∀ (c : UInt8) (w : World), Calls Tryd.prog f #[.int .u8 c.toNat] w fun e w' => e = .returned (.bool (p c)) ∧ w = w') (s : ByteArray) (w : World) (hs : s.size ≤ maxLen) :
    Calls Tryd.prog 72 #[.string s, .func (.func f) #[] #[]] w fun e w' => e = .returned (.int .i64 (runL p s.data.toList)) ∧ w = w' := by
  unfold maxLen at hs
  have Hf := Lib.hid hf
  clear hf
  go_enter Tryd.func72, Tryd.ntmps72
  go_wp2
  go_loop [5, 8] (fun _ i => ∃ k : Nat, k ≤ s.size ∧ i = .int .i64 k ∧ Hid (∀ j d, j < k → s.data.toList[j]? = some d → p d = true)) (fun _ i => s.size - (intOf i).toNat)
  case atStart => exact ⟨0, Nat.zero_le _, rfl, fun j d h => by omega⟩
  case round =>
    obtain ⟨k, hk, rfl, hp⟩ := hrel
    by_cases hlt : k < s.size
    · have hd : s.data.toList[k]? = some s[k] := by rw [List.getElem?_eq_getElem (by simpa using hlt)]; rfl
      have HD := Lib.hid hd
      clear hd
      cases hpk : p s[k]
      · go_wp2_with (refine (Hf.out _ _).mono ?_; rintro e w' ⟨rfl, rfl⟩)
        go_ret
        exact ⟨ret_int (by rw [runL_stop p _ k _ HD.out hpk hp]), rfl⟩
      · go_wp2_with (refine (Hf.out _ _).mono ?_; rintro e w' ⟨rfl, rfl⟩)
        go_round
        case rel => exact ⟨k + 1, by omega, by go_num, fun j d hj hd => by
          by_cases e : j = k
          · subst e; rw [HD.out] at hd; cases hd; exact hpk
          · exact hp j d (by omega) hd⟩
        case measure => simp [intOf]; omega
    · go_wp2
      go_ret
      exact ⟨ret_int (by rw [runL_all p _ (fun j d hj => hp j d (by rw [len_bytes] at hj; omega)), len_bytes]), rfl⟩
theorem byte_at (s : ByteArray) (k : Nat) (h : k < s.size) : s.data.toList[k]? = some s[k] := by
  rw [List.getElem?_eq_getElem (by simpa using h)]; rfl
theorem drop_at (s : ByteArray) (k : Nat) (h : k < s.size) : s.data.toList.drop k = s[k] :: s.data.toList.drop (k + 1) := by
  rw [List.drop_eq_getElem_cons (by simpa using h)]; rfl
theorem extract_list (s : ByteArray) (a b : Nat) : (s.extract a b).data.toList = (s.data.toList.drop a).take (b - a) := by
  rw [ByteArray.data_extract, Array.toList_extract]
theorem extract_end (s : ByteArray) (a : Nat) : (s.extract a s.size).data.toList = s.data.toList.drop a := by
  rw [extract_list, List.take_of_length_le]; rw [List.length_drop, len_bytes]; omega
theorem beq_t {a b : Int} (h : a = b) : (a == b) = true := beq_iff_eq.2 h
theorem beq_f {a b : Int} (h : a ≠ b) : (a == b) = false := beq_eq_false_iff_ne.2 h

theorem enters_nl (args : Array Value) (w : World) : (callFunc 73 args).run Tryd.prog w = .ok (.enter 73 args) w := by simp [go_sem]

theorem blanks_any (s : ByteArray) (w : World) (hs : s.size ≤ maxLen) :
    Calls Tryd.prog 50 #[.string s] w fun e w' => e = .returned (.int .i64 (skipB false s.data.toList)) ∧ w = w' := by
  have hsm := Lib.hid hs
  unfold maxLen at hs
  go_enter Tryd.func50, Tryd.ntmps50
  go_wp2
  go_loop [3] (fun i => ∃ k : Nat, k ≤ s.size ∧ i = .int .i64 k ∧ Hid (skipB false s.data.toList = k + skipB false (s.data.toList.drop k))) (fun i => s.size - (intOf i).toNat)
  case atStart => exact ⟨0, Nat.zero_le _, rfl, by simp [Hid]⟩
  case round =>
    obtain ⟨k, hk, rfl, hp⟩ := hrel
    by_cases hlt : k < s.size
    · have HD := Lib.hid (drop_at s k hlt)
      by_cases h32 : s[k].toNat = 32 ∨ s[k].toNat = 9 ∨ s[k].toNat = 10
      · have hb : Hid (isBlank s[k] = true) := by unfold Hid isBlank; rcases h32 with h | h | h <;> simp [h]
        have hn : Hid (skipB false s.data.toList = (k + 1 : Nat) + skipB false (s.data.toList.drop (k + 1))) := by
          have := hp.out
          rw [HD.out, skipB_blank _ _ hb.out] at this
          unfold Hid; omega
        rcases h32 with h | h | h
        · have t1 : ((s[k].toNat : Int) == 32) = true := beq_t (by omega)
          go_wp2
          go_round
          case rel => exact ⟨k + 1, by omega, by go_num, hn⟩
          case measure => simp [intOf]; omega
        · have t1 : ((s[k].toNat : Int) == 32) = false := beq_f (by omega)
          have t2 : ((s[k].toNat : Int) == 9) = true := beq_t (by omega)
          go_wp2
          go_round
          case rel => exact ⟨k + 1, by omega, by go_num, hn⟩
          case measure => simp [intOf]; omega
        · have t1 : ((s[k].toNat : Int) == 32) = false := beq_f (by omega)
          have t2 : ((s[k].toNat : Int) == 9) = false := beq_f (by omega)
          have t3 : ((s[k].toNat : Int) == 10) = true := beq_t (by omega)
          go_wp2
          go_round
          case rel => exact ⟨k + 1, by omega, by go_num, hn⟩
          case measure => simp [intOf]; omega
      · have t1 : ((s[k].toNat : Int) == 32) = false := beq_f (by omega)
        have t2 : ((s[k].toNat : Int) == 9) = false := beq_f (by omega)
        have t3 : ((s[k].toNat : Int) == 10) = false := beq_f (by omega)
        by_cases h35 : s[k].toNat = 35
        · have t4 : ((s[k].toNat : Int) == 35) = true := beq_t (by omega)
          have hle := runL_le notNl (s.data.toList.drop k)
          have hpos : 0 < runL notNl (s.data.toList.drop k) := by rw [HD.out]; simp [runL, notNl, h35]
          rw [List.length_drop, len_bytes] at hle
          have hn : Hid (skipB false s.data.toList = (k + runL notNl (s.data.toList.drop k) : Nat) + skipB false (s.data.toList.drop (k + runL notNl (s.data.toList.drop k)))) := by
            have h0 := hp.out
            have h1 := skipB_hash s[k] (s.data.toList.drop (k + 1)) h35
            rw [← HD.out, List.drop_drop] at h1
            unfold Hid; omega
          go_wp2_with (go_at_call 72; refine (run_any notNl _ enters_nl nl_any _ _ (by have := hsm.out; simp; omega)).mono ?_; rintro e w' ⟨rfl, rfl⟩; rw [extract_end])
          go_round
          case rel => exact ⟨k + runL notNl (s.data.toList.drop k), by omega, by go_num, hn⟩
          case measure => simp [intOf]; omega
        · have t4 : ((s[k].toNat : Int) == 35) = false := beq_f (by omega)
          have hn : Hid (skipB false s.data.toList = k) := by
            have h0 := hp.out
            have hb : isBlank s[k] = false := by unfold isBlank; simp; omega
            rw [HD.out, skipB_stop _ _ hb h35] at h0
            exact h0
          go_wp2
          go_ret
          exact ⟨ret_int (by rw [hn.out]), rfl⟩
    · have hn : Hid (skipB false s.data.toList = k) := by
        have h0 := hp.out
        rw [List.drop_eq_nil_of_le (by rw [len_bytes]; omega)] at h0
        unfold Hid
        simpa [skipB] using h0
      go_wp2
      go_ret
      exact ⟨ret_int (by rw [hn.out]), rfl⟩
end Go.Proofs.YtemhiiignamkjaaDoor
