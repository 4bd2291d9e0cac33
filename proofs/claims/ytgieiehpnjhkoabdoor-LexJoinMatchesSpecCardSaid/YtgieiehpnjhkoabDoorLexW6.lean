/-
  The walks of lex.Spot and of the specification's Spot.
-/
import Derived.Test.YtgieiehpnjhkoabDoorLexW2
namespace Go.Proofs.YtgieiehpnjhkoabDoor
open Go.RowKit LexP

/-- How many bytes of a text lie before an index. -/
def spotAt (s : ByteArray) (a : Int) : Nat := (min (max a 0) (s.size : Int)).toNat
/-- The line of the byte behind the first m. -/
def lineOf (s : ByteArray) (m : Nat) : Nat := 1 + (s.data.toList.take m).count 10
/-- Its column. -/
def colOf (s : ByteArray) : Nat → Nat
  | 0 => 1
  | k + 1 => bif (s.data.toList.getD k 0).toNat == 10 then 1 else colOf s k + 1

theorem colOf_le (s : ByteArray) (k : Nat) : colOf s k ≤ k + 1 := by
  induction k with
  | zero => simp [colOf]
  | succ k ih => simp only [colOf]; cases ((s.data.toList.getD k 0).toNat == 10) <;> simp; omega

theorem colOf_pos (s : ByteArray) (k : Nat) : 0 < colOf s k := by
  cases k with
  | zero => simp [colOf]
  | succ k => simp only [colOf]; cases ((s.data.toList.getD k 0).toNat == 10) <;> simp

theorem data_get (s : ByteArray) (k : Nat) : s.data[k]! = s.data.toList.getD k 0 := by
  simp only [List.getD, getElem!_def, Array.getElem?_toList]
  cases s.data[k]? <;> rfl

theorem col_last (s : ByteArray) (k : Nat) : (k : Int) - Lib.lastIdx s 10 k = colOf s k := by
  induction k with
  | zero => simp [Lib.lastIdx, colOf]
  | succ k ih =>
    simp only [Lib.lastIdx, colOf, data_get]
    by_cases h : (s.data.toList.getD k 0).toNat = 10
    · have h1 : (((s.data.toList.getD k 0).toNat : Int) = 10) := by omega
      rw [if_pos (by first | exact h1 | exact beq_iff_eq.2 h1)]
      rw [beq_iff_eq.2 h]
      simp; omega
    · have h1 : ¬ (((s.data.toList.getD k 0).toNat : Int) = 10) := by omega
      rw [if_neg (by first | exact h1 | (intro h2; exact h1 (beq_iff_eq.1 h2)))]
      rw [beq_eq_false_iff_ne.2 h]
      simp; omega

theorem lastIdx_extract (s : ByteArray) (m : Nat) (hm : m ≤ s.size) : ∀ k, k ≤ m → Lib.lastIdx (s.extract 0 m) 10 k = Lib.lastIdx s 10 k
  | 0, _ => rfl
  | k + 1, h => by
    have ih := lastIdx_extract s m hm k (by omega)
    have e : (s.extract 0 m).data.toList.getD k 0 = s.data.toList.getD k 0 := by
      rw [extract_list, Nat.sub_zero, List.drop_zero]
      simp only [List.getD]
      rw [List.getElem?_take_of_lt (by omega)]
    simp only [Lib.lastIdx, data_get, e, ih]

theorem spot_eq {a b : Int} {c : Nat} {d : Nat} (h : a = d) (h' : b = c) : Ending.returned (.tuple #[.int .i64 a, .int .i64 b]) = .returned (.tuple #[.int .i64 d, .int .i64 c]) := by rw [h, h']

theorem Spot_any (s : ByteArray) (a : Int) (w : World) (hs : s.size ≤ 1048576) :
    Calls Tryd.prog 13 #[.string s, .int .i64 a] w fun e w' => e = .returned (.tuple #[.int .i64 (lineOf s (spotAt s a)), .int .i64 (colOf s (spotAt s a))]) ∧ w = w' := by
  obtain ⟨m, hm⟩ : ∃ m, spotAt s a = m := ⟨_, rfl⟩
  have hle : m ≤ s.size := by rw [← hm]; unfold spotAt; omega
  have he : min (max a 0) (s.size : Int) = (m : Nat) := by rw [← hm]; unfold spotAt; omega
  rw [hm]
  clear hm
  have hcnt : ∀ w, Calls Tryd.prog 21 #[.string (s.extract 0 m), .string ⟨#[10]⟩] w fun e w' => e = .returned (.int .i64 ((s.data.toList.take m).count 10 : Nat)) ∧ w = w' := fun w =>
    (Tryd.strings_Count_one (s.extract 0 m) 10 w).mono fun e w' h => ⟨by rw [h.1, extract_list]; rfl, h.2.symm⟩
  have hlst : ∀ w, Calls Tryd.prog 22 #[.string (s.extract 0 m), .int .u8 10] w fun e w' => e = .returned (.int .i64 (Lib.lastIdx s 10 m)) ∧ w = w' := fun w =>
    (Tryd.strings_LastIndexByte (s.extract 0 m) 10 (by simp; omega) w).mono fun e w' h => ⟨by
      rw [h.1]
      unfold Lib.lastIndexByte
      have : (s.extract 0 m).size = m := by rw [ByteArray.size_extract]; omega
      rw [this, lastIdx_extract s m hle m (Nat.le_refl _)], h.2.symm⟩
  have Hc := Lib.hid hcnt
  have Hl := Lib.hid hlst
  have hcol := Lib.hid (col_last s m)
  have hcb : (s.data.toList.take m).count 10 ≤ m := by
    refine Nat.le_trans List.count_le_length ?_
    rw [List.length_take]; omega
  have hlb : -1 ≤ Lib.lastIdx s 10 m ∧ Lib.lastIdx s 10 m < m := by
    have h1 := col_last s m
    have h2 := colOf_le s m
    have h3 := colOf_pos s m
    omega
  obtain ⟨hlb1, hlb2⟩ := hlb
  clear hcnt hlst
  go_enter Tryd.func13, Tryd.ntmps13
  go_wp2_with (first | (go_at_call 21; refine (Hc.out _).mono ?_; rintro e w' ⟨rfl, rfl⟩) | (go_at_call 22; refine (Hl.out _).mono ?_; rintro e w' ⟨rfl, rfl⟩))
  go_ret2
  exact ⟨spot_eq (by unfold lineOf; omega) hcol.out, rfl⟩

theorem ref_Spot_any (s : ByteArray) (a : Int) (w : World) (hs : s.size ≤ 1048576) :
    Calls Tryd.prog 14 #[.string s, .int .i64 a] w fun e w' => e = .returned (.tuple #[.int .i64 (lineOf s (spotAt s a)), .int .i64 (colOf s (spotAt s a))]) ∧ w = w' := by
  obtain ⟨m, hm⟩ : ∃ m, spotAt s a = m := ⟨_, rfl⟩
  have hle : m ≤ s.size := by rw [← hm]; unfold spotAt; omega
  have ha : (m : Int) = a ∨ (a ≤ 0 ∧ m = 0) ∨ (m = s.size ∧ (s.size : Int) ≤ a) := by rw [← hm]; unfold spotAt; omega
  have Ha := Lib.hid ha
  clear ha
  rw [hm]
  clear hm
  go_enter Tryd.func14, Tryd.ntmps14
  go_wp2_with fail
  go_loop [6, 7, 8] (fun x y i => ∃ k : Nat, k ≤ m ∧ i = .int .i64 k ∧ x = .int .i64 (lineOf s k) ∧ y = .int .i64 (colOf s k)) (fun _ _ i => m - (intOf i).toNat)
  case atStart => exact ⟨0, Nat.zero_le _, rfl, rfl, rfl⟩
  case round =>
    obtain ⟨k, hk, rfl, rfl, rfl⟩ := hrel
    by_cases hlt : k < m
    · have h1 : (k : Int) < a := by rcases Ha.out with h | h | h <;> omega
      have h2 : (k : Int) < s.size := by omega
      have hc := colOf_le s k
      have hl : lineOf s k ≤ k + 1 := by
        unfold lineOf
        have := List.count_le_length (a := (10 : UInt8)) (l := s.data.toList.take k)
        rw [List.length_take] at this
        omega
      have hby := Lib.hid (byte_at s k (by omega))
      have hgd : Hid (s.data.toList.getD k 0 = s[k]'(by omega)) := by unfold Hid; rw [List.getD, hby.out]; rfl
      by_cases h10 : (s[k]'(by omega)).toNat = 10
      · have t1 : (((s[k]'(by omega)).toNat : Int) == 10) = true := beq_t (by omega)
        have e1 : Hid (lineOf s (k + 1) = lineOf s k + 1) := by
          unfold Hid lineOf
          rw [List.take_add_one, hby.out, List.count_append]
          have : (s[k]'(by omega)) = 10 := UInt8.toNat_inj.1 h10
          simp [this]; omega
        have e2 : Hid (colOf s (k + 1) = 1) := by
          unfold Hid
          simp only [colOf]
          rw [hgd.out, beq_iff_eq.2 h10]; rfl
        go_wp2_with fail
        go_round
        case rel => exact ⟨k + 1, by omega, by go_num, by rw [e1.out]; go_num, by rw [e2.out]; rfl⟩
        case measure => simp [intOf]; omega
      · have t1 : (((s[k]'(by omega)).toNat : Int) == 10) = false := beq_f (by omega)
        have e1 : Hid (lineOf s (k + 1) = lineOf s k) := by
          unfold Hid lineOf
          rw [List.take_add_one, hby.out, List.count_append]
          have : (s[k]'(by omega)) ≠ 10 := fun h => h10 (by rw [h]; rfl)
          simp [this]
        have e2 : Hid (colOf s (k + 1) = colOf s k + 1) := by
          unfold Hid
          simp only [colOf]
          rw [hgd.out, beq_eq_false_iff_ne.2 h10]; rfl
        go_wp2_with fail
        go_round
        case rel => exact ⟨k + 1, by omega, by go_num, by rw [e1.out], by rw [e2.out]; go_num⟩
        case measure => simp [intOf]; omega
    · obtain rfl : k = m := by omega
      by_cases h1 : (k : Int) < a
      · have h2 : ¬ (k : Int) < s.size := by rcases Ha.out with h | h | h <;> omega
        go_wp2_with fail
        go_ret2
        exact ⟨rfl, rfl⟩
      · go_wp2_with fail
        go_ret2
        exact ⟨rfl, rfl⟩
end Go.Proofs.YtgieiehpnjhkoabDoor
