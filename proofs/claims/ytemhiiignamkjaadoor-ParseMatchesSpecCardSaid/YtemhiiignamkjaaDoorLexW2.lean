/-
  The walks of layer 11 (lex): words, signs, numbers and tokens.
-/
import Derived.Test.YtemhiiignamkjaaDoorLexW1
import Derived.Test.YtemhiiignamkjaaDoorShelf
import Derived.Deep.QuietTactic
import Derived.BigQuiet
namespace Go.Proofs.YtemhiiignamkjaaDoor
open Go.RowKit LexP

theorem enters_digit (args : Array Value) (w : World) : (callFunc 76 args).run Tryd.prog w = .ok (.enter 76 args) w := by simp [go_sem]
theorem enters_either (args : Array Value) (w : World) : (callFunc 88 args).run Tryd.prog w = .ok (.enter 88 args) w := by simp [go_sem]

theorem headE_drop (s : ByteArray) (k : Nat) (h : k < s.size) : headE (s.data.toList.drop k) = isE s[k] := by
  rw [drop_at s k h]; rfl

theorem word_any (s : ByteArray) (w : World) (hs : s.size ≤ 1048576) :
    Calls Tryd.prog 75 #[.string s] w fun e w' => e = .returned (.int .i64 (wordL s.data.toList)) ∧ w = w' := by
  have hsm : Hid (s.size ≤ maxLen) := by unfold Hid maxLen; omega
  go_enter Tryd.func75, Tryd.ntmps75
  go_wp2_with (go_at_call 72; refine (run_any isE _ enters_either either_any _ _ hsm.out).mono ?_; rintro e w' ⟨rfl, rfl⟩)
  go_loop [3] (fun i => ∃ k : Nat, k ≤ s.size ∧ i = .int .i64 k ∧ Hid (wordL s.data.toList = k + wordL (s.data.toList.drop k)) ∧ Hid (headE (s.data.toList.drop k) = false)) (fun i => s.size - (intOf i).toNat)
  case atStart => exact ⟨runL isE s.data.toList, by rw [← len_bytes]; exact runL_le _ _, rfl, wordL_run _, headE_run _⟩
  case round =>
    obtain ⟨k, hk, rfl, hp, hh⟩ := hrel
    have done : Hid ((∀ c r, s.data.toList.drop k = c :: r → c.toNat = 45 → headE r = false) → wordL s.data.toList = k) := fun h => by
      have := wordL_stop _ hh.out h
      have := hp.out
      omega
    by_cases h1 : k + 1 < s.size
    · have HD := Lib.hid (drop_at s k (by omega))
      by_cases h2 : s[k].toNat = 45
      · have t1 : ((s[k].toNat : Int) == 45) = true := beq_t (by omega)
        cases h3 : isE s[k + 1]
        · go_wp2_with (go_at_call 88; refine (either_any _ _).mono ?_; rintro e w' ⟨rfl, rfl⟩)
          go_ret
          exact ⟨ret_int (by rw [done.out (fun c r hc hd => by rw [HD.out] at hc; cases hc; rw [headE_drop s _ h1]; exact h3)]), rfl⟩
        · have hle := runL_le isE (s.data.toList.drop (k + 1))
          rw [List.length_drop, len_bytes] at hle
          have hn : Hid (wordL s.data.toList = (k + (1 + runL isE (s.data.toList.drop (k + 1))) : Nat) + wordL (s.data.toList.drop (k + (1 + runL isE (s.data.toList.drop (k + 1)))))) := by
            have a1 := hp.out
            rw [HD.out, wordL_dash _ _ h2 (by rw [headE_drop s _ h1]; exact h3)] at a1
            have a2 := wordL_run (s.data.toList.drop (k + 1))
            rw [List.drop_drop, Nat.add_assoc] at a2
            unfold Hid; omega
          have hn2 : Hid (headE (s.data.toList.drop (k + (1 + runL isE (s.data.toList.drop (k + 1))))) = false) := by
            have a2 := headE_run (s.data.toList.drop (k + 1))
            rw [List.drop_drop, Nat.add_assoc] at a2
            exact a2
          go_wp2_with (first | (go_at_call 88; refine (either_any _ _).mono ?_; rintro e w' ⟨rfl, rfl⟩) | (go_at_call 72; refine (run_any isE _ enters_either either_any _ _ (by have := hsm.out; simp; omega)).mono ?_; rintro e w' ⟨rfl, rfl⟩; rw [extract_end]))
          go_round
          case rel => exact ⟨k + (1 + runL isE (s.data.toList.drop (k + 1))), by omega, by go_num, hn, hn2⟩
          case measure => simp [intOf]; omega
      · have t1 : ((s[k].toNat : Int) == 45) = false := beq_f (by omega)
        go_wp2_with fail
        go_ret
        exact ⟨ret_int (by rw [done.out (fun c r hc hd => by rw [HD.out] at hc; cases hc; exact absurd hd h2)]), rfl⟩
    · have hl : Hid (∀ c r, s.data.toList.drop k = c :: r → c.toNat = 45 → headE r = false) := fun c r hc hd => by
        have : (s.data.toList.drop k).length = s.size - k := by rw [List.length_drop, len_bytes]
        rw [hc] at this
        simp at this
        cases r with
        | nil => rfl
        | cons d r => simp at this; omega
      go_wp2_with fail
      go_ret
      exact ⟨ret_int (by rw [done.out hl.out]), rfl⟩

theorem u8_beq (c d : UInt8) : (c == d) = (c.toNat == d.toNat) := by
  rw [Bool.eq_iff_iff, beq_iff_eq, beq_iff_eq]; exact UInt8.toNat_inj.symm

theorem hasPrefix_arrow (l : List UInt8) : Lib.hasPrefix l [45, 62] = isArrow l := by
  unfold Lib.hasPrefix
  rcases l with _ | ⟨c, _ | ⟨d, r⟩⟩
  · rfl
  · simp [List.isPrefixOf, isArrow]
  · simp only [List.isPrefixOf, isArrow, u8_beq, Bool.and_true]
    rw [Bool.beq_comm (a := (45 : UInt8).toNat), Bool.beq_comm (a := (62 : UInt8).toNat)]
    rfl

theorem arrow_any (s : ByteArray) (w : World) :
    Calls Tryd.prog 89 #[.string s, .string ⟨#[45, 62]⟩] w fun e w' => e = .returned (.bool (isArrow s.data.toList)) ∧ w = w' :=
  (Tryd.strings_HasPrefix s ⟨#[45, 62]⟩ w).mono fun e w' h => ⟨by rw [h.1]; exact ret_bool (hasPrefix_arrow _), h.2.symm⟩

/-- Where the byte stands among the signs of one byte (below 0: nowhere). -/
def signAt (c : UInt8) : Int := Lib.indexByte [123, 125, 40, 41, 59, 44, 61] c
theorem signAt_iff (c : UInt8) : 0 ≤ signAt c ↔ isSign c = true := by
  have e : ∀ a : UInt8, (a == c) = (c.toNat == a.toNat) := fun a => by rw [u8_beq]; exact Bool.beq_comm
  simp only [signAt, Lib.indexByte, e, isSign]
  by_cases h1 : c.toNat = 123
  · simp [h1]
  by_cases h2 : c.toNat = 125
  · simp [h2]
  by_cases h3 : c.toNat = 40
  · simp [h3]
  by_cases h4 : c.toNat = 41
  · simp [h4]
  by_cases h5 : c.toNat = 59
  · simp [h5]
  by_cases h6 : c.toNat = 44
  · simp [h6]
  by_cases h7 : c.toNat = 61
  · simp [h7]
  · simp [h1, h2, h3, h4, h5, h6, h7]
theorem signAt_any (c : UInt8) (w : World) :
    Calls Tryd.prog 90 #[.string ⟨#[123, 125, 40, 41, 59, 44, 61]⟩, .int .u8 c.toNat] w fun e w' => e = .returned (.int .i64 (signAt c)) ∧ w = w' :=
  (Tryd.strings_IndexByte ⟨#[123, 125, 40, 41, 59, 44, 61]⟩ c.toNat w).mono fun e w' h => ⟨by rw [h.1]; exact ret_int (by unfold signAt; congr 1; simp), h.2.symm⟩

theorem sign_any (s : ByteArray) (w : World) (h0 : 0 < s.size) :
    Calls Tryd.prog 78 #[.string s] w fun e w' => e = .returned (.int .i64 (signL s.data.toList)) ∧ w = w' := by
  have HD := Lib.hid (drop_at s 0 h0)
  have hv : Hid (signL s.data.toList = bif isArrow s.data.toList then 2 else bif isSign s[0] then 1 else 0) := by
    have := HD.out
    rw [List.drop_zero] at this
    rw [this]
    rfl
  cases hp : isArrow s.data.toList
  · cases hs : isSign s[0]
    · have hi' : signAt s[0] < 0 := by
        have : ¬ (0 : Int) ≤ signAt s[0] := by rw [signAt_iff, hs]; simp
        omega
      go_enter Tryd.func78, Tryd.ntmps78
      go_wp2_with (first | (go_at_call 89; refine (arrow_any _ _).mono ?_; rintro e w' ⟨rfl, rfl⟩) | (go_at_call 90; refine (signAt_any _ _).mono ?_; rintro e w' ⟨rfl, rfl⟩))
      go_ret
      exact ⟨ret_int (by rw [hv.out, hp, hs]; rfl), rfl⟩
    · have hi : (0 : Int) ≤ signAt s[0] := (signAt_iff _).2 hs
      go_enter Tryd.func78, Tryd.ntmps78
      go_wp2_with (first | (go_at_call 89; refine (arrow_any _ _).mono ?_; rintro e w' ⟨rfl, rfl⟩) | (go_at_call 90; refine (signAt_any _ _).mono ?_; rintro e w' ⟨rfl, rfl⟩))
      go_ret
      exact ⟨ret_int (by rw [hv.out, hp, hs]; rfl), rfl⟩
  · go_enter Tryd.func78, Tryd.ntmps78
    go_wp2_with (first | (go_at_call 89; refine (arrow_any _ _).mono ?_; rintro e w' ⟨rfl, rfl⟩) | (go_at_call 90; refine (signAt_any _ _).mono ?_; rintro e w' ⟨rfl, rfl⟩))
    go_ret
    exact ⟨ret_int (by rw [hv.out, hp]; rfl), rfl⟩
end Go.Proofs.YtemhiiignamkjaaDoor
