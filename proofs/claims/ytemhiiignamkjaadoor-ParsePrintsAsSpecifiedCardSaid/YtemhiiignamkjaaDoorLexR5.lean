/-
  The walk of the specification's 'one': the token at an index.
-/
import Derived.Test.YtemhiiignamkjaaDoorLexR4
namespace Go.Proofs.YtemhiiignamkjaaDoor
open Go.RowKit LexP

def tokAgg (t : Tok) : Value := .agg #[.int .i64 t.kind, .string t.text, .int .i64 t.n, .int .i64 t.pos]

theorem oneT_word (s : ByteArray) (i : Nat) (h : i < s.size) (hl : isL s[i] = true) : oneT s i = ⟨1, s.extract i (i + wordL (s.data.toList.drop i)), 0, i⟩ := by
  have e : tokenL (s.data.toList.drop i) = (1, wordL (s.data.toList.drop i), 0) := by
    rw [drop_at s i h]; unfold tokenL; simp only [hl, if_true]
  have hp : 0 < wordL (s.data.toList.drop i) := by
    rw [drop_at s i h]; simp [wordL, isE, hl]
  unfold oneT tokAt
  rw [e]
  rw [if_neg (by simp; omega)]
theorem oneT_num (s : ByteArray) (i : Nat) (h : i < s.size) (hl : isL s[i] = false) (hd : isD s[i] = true) :
    oneT s i = if (numberL (s.data.toList.drop i)).1 = 0 then ⟨0, ⟨#[]⟩, 0, 0⟩ else ⟨2, s.extract i (i + (numberL (s.data.toList.drop i)).1), (numberL (s.data.toList.drop i)).2, i⟩ := by
  have e : tokenL (s.data.toList.drop i) = (2, (numberL (s.data.toList.drop i)).1, (numberL (s.data.toList.drop i)).2) := by
    rw [drop_at s i h]; unfold tokenL; simp only [hl, hd, if_true, Bool.false_eq_true, if_false]
  unfold oneT tokAt
  rw [e]
theorem oneT_sign (s : ByteArray) (i : Nat) (h : i < s.size) (hl : isL s[i] = false) (hd : isD s[i] = false) :
    oneT s i = if signL (s.data.toList.drop i) = 0 then ⟨0, ⟨#[]⟩, 0, 0⟩ else ⟨3, s.extract i (i + signL (s.data.toList.drop i)), 0, i⟩ := by
  have e : tokenL (s.data.toList.drop i) = (3, signL (s.data.toList.drop i), 0) := by
    rw [drop_at s i h]; unfold tokenL; simp only [hl, hd, Bool.false_eq_true, if_false]
  unfold oneT tokAt
  rw [e]

set_option maxRecDepth 100000 in
set_option maxHeartbeats 4000000 in
theorem ref_one_any (s : ByteArray) (i : Nat) (w : World) (hs : s.size ≤ 1048576) (hi : i < s.size) :
    Calls Tryd.prog 49 #[.string s, .int .i64 i] w fun e w' => e = .returned (tokAgg (oneT s i)) ∧ Below w.heap.size w w' := by
  have hB : ∀ o : Obj, Below w.heap.size w (w.alloc o) := fun o => (Below.refl _ w).alloc (Nat.le_refl _) _
  cases hl : isL s[i]
  · cases hd : isD s[i]
    · have hv := Lib.hid (oneT_sign s i hi hl hd)
      have hle := signL_le (s.data.toList.drop i)
      rw [List.length_drop, len_bytes] at hle
      by_cases h0 : signL (s.data.toList.drop i) = 0
      · have hf : Hid (oneT s i = ⟨0, ⟨#[]⟩, 0, 0⟩) := by unfold Hid; rw [hv.out, if_pos h0]
        have t1 : ((i : Int) + (signL (s.data.toList.drop i) : Int) == (i : Int)) = true := beq_t (by omega)
        clear h0
        rw [hf.out]
        go_enter Tryd.func49, Tryd.ntmps49
        go_wp2_with (first | (go_at_call 67; refine (ref_letter_any _ _).mono ?_; rintro e w' ⟨rfl, rfl⟩) | (go_at_call 69; refine (ref_digit_any _ _).mono ?_; rintro e w' ⟨rfl, rfl⟩) | (go_at_call 71; refine (ref_sign_any _ _ _ hs hi).mono ?_; rintro e w' ⟨rfl, rfl⟩) | (go_at_call 70; refine (ref_number_any _ _ _ hs hi).mono ?_; rintro e w' ⟨rfl, rfl⟩) | (go_at_call 68; refine (ref_word_any _ _ _ hs (by omega)).mono ?_; rintro e w' ⟨rfl, rfl⟩))
        exact bodyPost_ret (results_c (P := Tryd.prog) rfl _ _ w.heap.size 47 _ _ rfl (Blk.new w 47 _) Tryd.underlying47 rfl (by kernel_rfl)) rfl ⟨rfl, hB _⟩
      · have hf : Hid (oneT s i = ⟨3, s.extract i (i + signL (s.data.toList.drop i)), 0, i⟩) := by unfold Hid; rw [hv.out, if_neg h0]
        have t1 : ((i : Int) + (signL (s.data.toList.drop i) : Int) == (i : Int)) = false := beq_f (by omega)
        clear h0
        rw [hf.out]
        go_enter Tryd.func49, Tryd.ntmps49
        go_wp2_with (first | (go_at_call 67; refine (ref_letter_any _ _).mono ?_; rintro e w' ⟨rfl, rfl⟩) | (go_at_call 69; refine (ref_digit_any _ _).mono ?_; rintro e w' ⟨rfl, rfl⟩) | (go_at_call 71; refine (ref_sign_any _ _ _ hs hi).mono ?_; rintro e w' ⟨rfl, rfl⟩) | (go_at_call 70; refine (ref_number_any _ _ _ hs hi).mono ?_; rintro e w' ⟨rfl, rfl⟩) | (go_at_call 68; refine (ref_word_any _ _ _ hs (by omega)).mono ?_; rintro e w' ⟨rfl, rfl⟩))
        exact bodyPost_ret (results_c (P := Tryd.prog) rfl _ _ w.heap.size 47 _ _ rfl (Blk.new w 47 _) Tryd.underlying47 rfl (by kernel_rfl)) rfl ⟨rfl, hB _⟩
    · have hv := Lib.hid (oneT_num s i hi hl hd)
      have hle := numberL_le (s.data.toList.drop i)
      rw [List.length_drop, len_bytes] at hle
      by_cases h0 : (numberL (s.data.toList.drop i)).1 = 0
      · have hf : Hid (oneT s i = ⟨0, ⟨#[]⟩, 0, 0⟩) := by unfold Hid; rw [hv.out, if_pos h0]
        have t1 : ((i : Int) + ((numberL (s.data.toList.drop i)).1 : Int) == (i : Int)) = true := beq_t (by omega)
        clear h0
        rw [hf.out]
        go_enter Tryd.func49, Tryd.ntmps49
        go_wp2_with (first | (go_at_call 67; refine (ref_letter_any _ _).mono ?_; rintro e w' ⟨rfl, rfl⟩) | (go_at_call 69; refine (ref_digit_any _ _).mono ?_; rintro e w' ⟨rfl, rfl⟩) | (go_at_call 71; refine (ref_sign_any _ _ _ hs hi).mono ?_; rintro e w' ⟨rfl, rfl⟩) | (go_at_call 70; refine (ref_number_any _ _ _ hs hi).mono ?_; rintro e w' ⟨rfl, rfl⟩) | (go_at_call 68; refine (ref_word_any _ _ _ hs (by omega)).mono ?_; rintro e w' ⟨rfl, rfl⟩))
        exact bodyPost_ret (results_c (P := Tryd.prog) rfl _ _ w.heap.size 47 _ _ rfl (Blk.new w 47 _) Tryd.underlying47 rfl (by kernel_rfl)) rfl ⟨rfl, hB _⟩
      · have hf : Hid (oneT s i = ⟨2, s.extract i (i + (numberL (s.data.toList.drop i)).1), (numberL (s.data.toList.drop i)).2, i⟩) := by unfold Hid; rw [hv.out, if_neg h0]
        have t1 : ((i : Int) + ((numberL (s.data.toList.drop i)).1 : Int) == (i : Int)) = false := beq_f (by omega)
        clear h0
        rw [hf.out]
        go_enter Tryd.func49, Tryd.ntmps49
        go_wp2_with (first | (go_at_call 67; refine (ref_letter_any _ _).mono ?_; rintro e w' ⟨rfl, rfl⟩) | (go_at_call 69; refine (ref_digit_any _ _).mono ?_; rintro e w' ⟨rfl, rfl⟩) | (go_at_call 71; refine (ref_sign_any _ _ _ hs hi).mono ?_; rintro e w' ⟨rfl, rfl⟩) | (go_at_call 70; refine (ref_number_any _ _ _ hs hi).mono ?_; rintro e w' ⟨rfl, rfl⟩) | (go_at_call 68; refine (ref_word_any _ _ _ hs (by omega)).mono ?_; rintro e w' ⟨rfl, rfl⟩))
        exact bodyPost_ret (results_c (P := Tryd.prog) rfl _ _ w.heap.size 47 _ _ rfl (Blk.new w 47 _) Tryd.underlying47 rfl (by kernel_rfl)) rfl ⟨rfl, hB _⟩
  · have hv := Lib.hid (oneT_word s i hi hl)
    have hle := wordL_le (s.data.toList.drop i)
    rw [List.length_drop, len_bytes] at hle
    rw [hv.out]
    go_enter Tryd.func49, Tryd.ntmps49
    go_wp2_with (first | (go_at_call 67; refine (ref_letter_any _ _).mono ?_; rintro e w' ⟨rfl, rfl⟩) | (go_at_call 69; refine (ref_digit_any _ _).mono ?_; rintro e w' ⟨rfl, rfl⟩) | (go_at_call 71; refine (ref_sign_any _ _ _ hs hi).mono ?_; rintro e w' ⟨rfl, rfl⟩) | (go_at_call 70; refine (ref_number_any _ _ _ hs hi).mono ?_; rintro e w' ⟨rfl, rfl⟩) | (go_at_call 68; refine (ref_word_any _ _ _ hs (by omega)).mono ?_; rintro e w' ⟨rfl, rfl⟩))
    exact bodyPost_ret (results_c (P := Tryd.prog) rfl _ _ w.heap.size 47 _ _ rfl (Blk.new w 47 _) Tryd.underlying47 rfl (by kernel_rfl)) rfl ⟨rfl, hB _⟩

/-- What the specification's Tokens leaves: its record. -/
def RefPost (w : World) (r : Res) (e : Ending) (w' : World) : Prop :=
  ∃ v pos err, e = .returned (.agg #[v, .int .i64 pos, .int .i64 err]) ∧ TokRes w.heap.size r w' v pos err ∧ Below w.heap.size w w'

end Go.Proofs.YtemhiiignamkjaaDoor
