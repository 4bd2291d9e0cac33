/-
  The walks of layer 11's specification: signs, and the token at an index.
  The walk of the specification's 'one': the token at an index.
  The walk of the specification's Tokens: it returns what the scan finds.
-/
import Derived.Test.YtemhiiignamkjaaDoorLexR3
import Derived.Test.YtemhiiignamkjaaDoorNC
namespace Go.Proofs.YtemhiiignamkjaaDoor
open Go.RowKit LexP

theorem isArrow_atI (s : ByteArray) (k : Nat) : isArrow (s.data.toList.drop k) = (((atI s k).toNat == 45) && ((atI s ((k : Int) + 1)).toNat == 62)) := by
  have e : atI s ((k : Int) + 1) = atI s (k + 1 : Nat) := rfl
  rw [e]
  rcases Nat.lt_or_ge k s.size with h | h
  · rw [drop_atI s k h]
    rcases Nat.lt_or_ge (k + 1) s.size with h2 | h2
    · rw [drop_atI s (k + 1) h2]; rfl
    · rw [List.drop_eq_nil_of_le (by rw [len_bytes]; exact h2), atI_ge s (k + 1) h2]
      simp [isArrow]
  · rw [List.drop_eq_nil_of_le (by rw [len_bytes]; exact h), atI_ge s k h]; rfl

set_option maxRecDepth 100000 in
set_option maxHeartbeats 4000000 in
theorem ref_sign_any (s : ByteArray) (i : Nat) (w : World) (hs : s.size ≤ 1048576) (hi : i < s.size) :
    Calls Tryd.prog 71 #[.string s, .int .i64 i] w fun e w' => e = .returned (.int .i64 (i + signL (s.data.toList.drop i) : Nat)) ∧ w = w' := by
  have hb := Lib.hid (atI_lt s i hi)
  have hv : Hid (signL (s.data.toList.drop i) = bif (s[i].toNat == 45) && ((atI s ((i : Int) + 1)).toNat == 62) then 2 else bif isSign s[i] then 1 else 0) := by
    have := isArrow_atI s i
    rw [hb.out] at this
    unfold Hid
    rw [← this, drop_at s i hi]; rfl
  by_cases hA : s[i].toNat = 45 ∧ (atI s ((i : Int) + 1)).toNat = 62
  · obtain ⟨h1, h2⟩ := hA
    have t1 : ((s[i].toNat : Int) == 45) = true := beq_t (by omega)
    have t2 : (((atI s ((i : Int) + 1)).toNat : Int) == 62) = true := beq_t (by omega)
    have hf : Hid (signL (s.data.toList.drop i) = 2) := by unfold Hid; rw [hv.out, h1, h2]; rfl
    clear h1 h2
    go_enter Tryd.func71, Tryd.ntmps71
    go_wp2_with (go_at_call 86; refine (ref_at_any _ _ _ (by omega) (by omega)).mono ?_; rintro e w' ⟨rfl, rfl⟩)
    go_ret
    exact ⟨ret_int (by have := hf.out; omega), rfl⟩
  have hv2 : Hid (signL (s.data.toList.drop i) = bif isSign s[i] then 1 else 0) := by
    have : ((s[i].toNat == 45) && ((atI s ((i : Int) + 1)).toNat == 62)) = false := by
      rw [Bool.and_eq_false_iff, beq_eq_false_iff_ne, beq_eq_false_iff_ne]
      by_cases h1 : s[i].toNat = 45
      · exact .inr (fun h2 => hA ⟨h1, h2⟩)
      · exact .inl h1
    unfold Hid; rw [hv.out, this]; rfl
  by_cases h45 : s[i].toNat = 45
  · have t1 : ((s[i].toNat : Int) == 45) = true := beq_t (by omega)
    have t2 : (((atI s ((i : Int) + 1)).toNat : Int) == 62) = false := beq_f (fun h => hA ⟨h45, by omega⟩)
    have u123 : ((s[i].toNat : Int) == 123) = false := beq_f (by omega)
    have u125 : ((s[i].toNat : Int) == 125) = false := beq_f (by omega)
    have u40 : ((s[i].toNat : Int) == 40) = false := beq_f (by omega)
    have u41 : ((s[i].toNat : Int) == 41) = false := beq_f (by omega)
    have u59 : ((s[i].toNat : Int) == 59) = false := beq_f (by omega)
    have u44 : ((s[i].toNat : Int) == 44) = false := beq_f (by omega)
    have u61 : ((s[i].toNat : Int) == 61) = false := beq_f (by omega)
    have hf : Hid (signL (s.data.toList.drop i) = 0) := by
      have : isSign s[i] = false := by unfold isSign; rw [h45]; rfl
      unfold Hid; rw [hv2.out, this]; rfl
    clear h45 hA
    go_enter Tryd.func71, Tryd.ntmps71
    go_wp2_with (go_at_call 86; refine (ref_at_any _ _ _ (by omega) (by omega)).mono ?_; rintro e w' ⟨rfl, rfl⟩)
    go_ret
    exact ⟨ret_int (by have := hf.out; omega), rfl⟩
  have t1 : ((s[i].toNat : Int) == 45) = false := beq_f (by omega)
  clear hA
  by_cases h123 : s[i].toNat = 123
  · have u123 : ((s[i].toNat : Int) == 123) = true := beq_t (by omega)
    have hf : Hid (signL (s.data.toList.drop i) = 1) := by
      have : isSign s[i] = true := by unfold isSign; rw [h123]; rfl
      unfold Hid; rw [hv2.out, this]; rfl
    clear h123 h45
    go_enter Tryd.func71, Tryd.ntmps71
    go_wp2_with fail
    go_ret
    exact ⟨ret_int (by have := hf.out; omega), rfl⟩
  have u123 : ((s[i].toNat : Int) == 123) = false := beq_f (by omega)
  by_cases h125 : s[i].toNat = 125
  · have u125 : ((s[i].toNat : Int) == 125) = true := beq_t (by omega)
    have hf : Hid (signL (s.data.toList.drop i) = 1) := by
      have : isSign s[i] = true := by unfold isSign; rw [h125]; rfl
      unfold Hid; rw [hv2.out, this]; rfl
    clear h125 h45
    go_enter Tryd.func71, Tryd.ntmps71
    go_wp2_with fail
    go_ret
    exact ⟨ret_int (by have := hf.out; omega), rfl⟩
  have u125 : ((s[i].toNat : Int) == 125) = false := beq_f (by omega)
  by_cases h40 : s[i].toNat = 40
  · have u40 : ((s[i].toNat : Int) == 40) = true := beq_t (by omega)
    have hf : Hid (signL (s.data.toList.drop i) = 1) := by
      have : isSign s[i] = true := by unfold isSign; rw [h40]; rfl
      unfold Hid; rw [hv2.out, this]; rfl
    clear h40 h45
    go_enter Tryd.func71, Tryd.ntmps71
    go_wp2_with fail
    go_ret
    exact ⟨ret_int (by have := hf.out; omega), rfl⟩
  have u40 : ((s[i].toNat : Int) == 40) = false := beq_f (by omega)
  by_cases h41 : s[i].toNat = 41
  · have u41 : ((s[i].toNat : Int) == 41) = true := beq_t (by omega)
    have hf : Hid (signL (s.data.toList.drop i) = 1) := by
      have : isSign s[i] = true := by unfold isSign; rw [h41]; rfl
      unfold Hid; rw [hv2.out, this]; rfl
    clear h41 h45
    go_enter Tryd.func71, Tryd.ntmps71
    go_wp2_with fail
    go_ret
    exact ⟨ret_int (by have := hf.out; omega), rfl⟩
  have u41 : ((s[i].toNat : Int) == 41) = false := beq_f (by omega)
  by_cases h59 : s[i].toNat = 59
  · have u59 : ((s[i].toNat : Int) == 59) = true := beq_t (by omega)
    have hf : Hid (signL (s.data.toList.drop i) = 1) := by
      have : isSign s[i] = true := by unfold isSign; rw [h59]; rfl
      unfold Hid; rw [hv2.out, this]; rfl
    clear h59 h45
    go_enter Tryd.func71, Tryd.ntmps71
    go_wp2_with fail
    go_ret
    exact ⟨ret_int (by have := hf.out; omega), rfl⟩
  have u59 : ((s[i].toNat : Int) == 59) = false := beq_f (by omega)
  by_cases h44 : s[i].toNat = 44
  · have u44 : ((s[i].toNat : Int) == 44) = true := beq_t (by omega)
    have hf : Hid (signL (s.data.toList.drop i) = 1) := by
      have : isSign s[i] = true := by unfold isSign; rw [h44]; rfl
      unfold Hid; rw [hv2.out, this]; rfl
    clear h44 h45
    go_enter Tryd.func71, Tryd.ntmps71
    go_wp2_with fail
    go_ret
    exact ⟨ret_int (by have := hf.out; omega), rfl⟩
  have u44 : ((s[i].toNat : Int) == 44) = false := beq_f (by omega)
  by_cases h61 : s[i].toNat = 61
  · have u61 : ((s[i].toNat : Int) == 61) = true := beq_t (by omega)
    have hf : Hid (signL (s.data.toList.drop i) = 1) := by
      have : isSign s[i] = true := by unfold isSign; rw [h61]; rfl
      unfold Hid; rw [hv2.out, this]; rfl
    clear h61 h45
    go_enter Tryd.func71, Tryd.ntmps71
    go_wp2_with fail
    go_ret
    exact ⟨ret_int (by have := hf.out; omega), rfl⟩
  have u61 : ((s[i].toNat : Int) == 61) = false := beq_f (by omega)
  have hf : Hid (signL (s.data.toList.drop i) = 0) := by
    have : isSign s[i] = false := by
      unfold isSign
      simp only [Bool.or_eq_false_iff, beq_eq_false_iff_ne]
      exact ⟨⟨⟨⟨⟨⟨h123, h125⟩, h40⟩, h41⟩, h59⟩, h44⟩, h61⟩
    unfold Hid; rw [hv2.out, this]; rfl
  go_enter Tryd.func71, Tryd.ntmps71
  go_wp2_with fail
  go_ret
  exact ⟨ret_int (by have := hf.out; omega), rfl⟩

/-- What the specification's 'one' returns: the token, or the zero token. -/
def oneT (s : ByteArray) (i : Nat) : Tok := if (tokenL (s.data.toList.drop i)).2.1 = 0 then ⟨0, ⟨#[]⟩, 0, 0⟩ else tokAt s i

end Go.Proofs.YtemhiiignamkjaaDoor
namespace Go.Proofs.YtemhiiignamkjaaDoor
open Go.RowKit LexP

def tokAgg (t : Tok) : Value := .agg #[.int .i64 t.kind, .string t.text, .int .i64 t.n, .int .i64 t.pos]

theorem oneT_word (s : ByteArray) (i : Nat) (h : i < s.size) (hl : isL s[i] = true) : oneT s i = ⟨1, s.extract i (i + wordL (s.data.toList.drop i)), 0, i⟩ := by
  have e : tokenL (s.data.toList.drop i) = (1, wordL (s.data.toList.drop i), 0) := by
    rw [drop_at s i h]; unfold tokenL; simp only [hl, if_true]
  have hp : 0 < wordL (s.data.toList.drop i) := by
    rw [drop_at s i h]; simp [wordL, isE, hl]
  unfold oneT tokAt
  rw [e]
  rw [if_neg (by simp; omega)]
theorem oneT_num (s : ByteArray) (i : Nat) (h : i < s.size) (hl : isL s[i] = false) (hd : isD s[i] = true) :
    oneT s i = if (numberL (s.data.toList.drop i)).1 = 0 then ⟨0, ⟨#[]⟩, 0, 0⟩ else ⟨2, s.extract i (i + (numberL (s.data.toList.drop i)).1), (numberL (s.data.toList.drop i)).2, i⟩ := by
  have e : tokenL (s.data.toList.drop i) = (2, (numberL (s.data.toList.drop i)).1, (numberL (s.data.toList.drop i)).2) := by
    rw [drop_at s i h]; unfold tokenL; simp only [hl, hd, if_true, Bool.false_eq_true, if_false]
  unfold oneT tokAt
  rw [e]
theorem oneT_sign (s : ByteArray) (i : Nat) (h : i < s.size) (hl : isL s[i] = false) (hd : isD s[i] = false) :
    oneT s i = if signL (s.data.toList.drop i) = 0 then ⟨0, ⟨#[]⟩, 0, 0⟩ else ⟨3, s.extract i (i + signL (s.data.toList.drop i)), 0, i⟩ := by
  have e : tokenL (s.data.toList.drop i) = (3, signL (s.data.toList.drop i), 0) := by
    rw [drop_at s i h]; unfold tokenL; simp only [hl, hd, Bool.false_eq_true, if_false]
  unfold oneT tokAt
  rw [e]

set_option maxRecDepth 100000 in
set_option maxHeartbeats 4000000 in
theorem ref_one_any (s : ByteArray) (i : Nat) (w : World) (hs : s.size ≤ 1048576) (hi : i < s.size) :
    Calls Tryd.prog 49 #[.string s, .int .i64 i] w fun e w' => e = .returned (tokAgg (oneT s i)) ∧ Below w.heap.size w w' := by
  have hB : ∀ o : Obj, Below w.heap.size w (w.alloc o) := fun o => (Below.refl _ w).alloc (Nat.le_refl _) _
  cases hl : isL s[i]
  · cases hd : isD s[i]
    · have hv := Lib.hid (oneT_sign s i hi hl hd)
      have hle := signL_le (s.data.toList.drop i)
      rw [List.length_drop, len_bytes] at hle
      by_cases h0 : signL (s.data.toList.drop i) = 0
      · have hf : Hid (oneT s i = ⟨0, ⟨#[]⟩, 0, 0⟩) := by unfold Hid; rw [hv.out, if_pos h0]
        have t1 : ((i : Int) + (signL (s.data.toList.drop i) : Int) == (i : Int)) = true := beq_t (by omega)
        clear h0
        rw [hf.out]
        go_enter Tryd.func49, Tryd.ntmps49
        go_wp2_with (first | (go_at_call 67; refine (ref_letter_any _ _).mono ?_; rintro e w' ⟨rfl, rfl⟩) | (go_at_call 69; refine (ref_digit_any _ _).mono ?_; rintro e w' ⟨rfl, rfl⟩) | (go_at_call 71; refine (ref_sign_any _ _ _ hs hi).mono ?_; rintro e w' ⟨rfl, rfl⟩) | (go_at_call 70; refine (ref_number_any _ _ _ hs hi).mono ?_; rintro e w' ⟨rfl, rfl⟩) | (go_at_call 68; refine (ref_word_any _ _ _ hs (by omega)).mono ?_; rintro e w' ⟨rfl, rfl⟩))
        exact bodyPost_ret (results_c (P := Tryd.prog) rfl _ _ w.heap.size 47 _ _ rfl (Blk.new w 47 _) Tryd.underlying47 rfl (by kernel_rfl)) rfl ⟨rfl, hB _⟩
      · have hf : Hid (oneT s i = ⟨3, s.extract i (i + signL (s.data.toList.drop i)), 0, i⟩) := by unfold Hid; rw [hv.out, if_neg h0]
        have t1 : ((i : Int) + (signL (s.data.toList.drop i) : Int) == (i : Int)) = false := beq_f (by omega)
        clear h0
        rw [hf.out]
        go_enter Tryd.func49, Tryd.ntmps49
        go_wp2_with (first | (go_at_call 67; refine (ref_letter_any _ _).mono ?_; rintro e w' ⟨rfl, rfl⟩) | (go_at_call 69; refine (ref_digit_any _ _).mono ?_; rintro e w' ⟨rfl, rfl⟩) | (go_at_call 71; refine (ref_sign_any _ _ _ hs hi).mono ?_; rintro e w' ⟨rfl, rfl⟩) | (go_at_call 70; refine (ref_number_any _ _ _ hs hi).mono ?_; rintro e w' ⟨rfl, rfl⟩) | (go_at_call 68; refine (ref_word_any _ _ _ hs (by omega)).mono ?_; rintro e w' ⟨rfl, rfl⟩))
        exact bodyPost_ret (results_c (P := Tryd.prog) rfl _ _ w.heap.size 47 _ _ rfl (Blk.new w 47 _) Tryd.underlying47 rfl (by kernel_rfl)) rfl ⟨rfl, hB _⟩
    · have hv := Lib.hid (oneT_num s i hi hl hd)
      have hle := numberL_le (s.data.toList.drop i)
      rw [List.length_drop, len_bytes] at hle
      by_cases h0 : (numberL (s.data.toList.drop i)).1 = 0
      · have hf : Hid (oneT s i = ⟨0, ⟨#[]⟩, 0, 0⟩) := by unfold Hid; rw [hv.out, if_pos h0]
        have t1 : ((i : Int) + ((numberL (s.data.toList.drop i)).1 : Int) == (i : Int)) = true := beq_t (by omega)
        clear h0
        rw [hf.out]
        go_enter Tryd.func49, Tryd.ntmps49
        go_wp2_with (first | (go_at_call 67; refine (ref_letter_any _ _).mono ?_; rintro e w' ⟨rfl, rfl⟩) | (go_at_call 69; refine (ref_digit_any _ _).mono ?_; rintro e w' ⟨rfl, rfl⟩) | (go_at_call 71; refine (ref_sign_any _ _ _ hs hi).mono ?_; rintro e w' ⟨rfl, rfl⟩) | (go_at_call 70; refine (ref_number_any _ _ _ hs hi).mono ?_; rintro e w' ⟨rfl, rfl⟩) | (go_at_call 68; refine (ref_word_any _ _ _ hs (by omega)).mono ?_; rintro e w' ⟨rfl, rfl⟩))
        exact bodyPost_ret (results_c (P := Tryd.prog) rfl _ _ w.heap.size 47 _ _ rfl (Blk.new w 47 _) Tryd.underlying47 rfl (by kernel_rfl)) rfl ⟨rfl, hB _⟩
      · have hf : Hid (oneT s i = ⟨2, s.extract i (i + (numberL (s.data.toList.drop i)).1), (numberL (s.data.toList.drop i)).2, i⟩) := by unfold Hid; rw [hv.out, if_neg h0]
        have t1 : ((i : Int) + ((numberL (s.data.toList.drop i)).1 : Int) == (i : Int)) = false := beq_f (by omega)
        clear h0
        rw [hf.out]
        go_enter Tryd.func49, Tryd.ntmps49
        go_wp2_with (first | (go_at_call 67; refine (ref_letter_any _ _).mono ?_; rintro e w' ⟨rfl, rfl⟩) | (go_at_call 69; refine (ref_digit_any _ _).mono ?_; rintro e w' ⟨rfl, rfl⟩) | (go_at_call 71; refine (ref_sign_any _ _ _ hs hi).mono ?_; rintro e w' ⟨rfl, rfl⟩) | (go_at_call 70; refine (ref_number_any _ _ _ hs hi).mono ?_; rintro e w' ⟨rfl, rfl⟩) | (go_at_call 68; refine (ref_word_any _ _ _ hs (by omega)).mono ?_; rintro e w' ⟨rfl, rfl⟩))
        exact bodyPost_ret (results_c (P := Tryd.prog) rfl _ _ w.heap.size 47 _ _ rfl (Blk.new w 47 _) Tryd.underlying47 rfl (by kernel_rfl)) rfl ⟨rfl, hB _⟩
  · have hv := Lib.hid (oneT_word s i hi hl)
    have hle := wordL_le (s.data.toList.drop i)
    rw [List.length_drop, len_bytes] at hle
    rw [hv.out]
    go_enter Tryd.func49, Tryd.ntmps49
    go_wp2_with (first | (go_at_call 67; refine (ref_letter_any _ _).mono ?_; rintro e w' ⟨rfl, rfl⟩) | (go_at_call 69; refine (ref_digit_any _ _).mono ?_; rintro e w' ⟨rfl, rfl⟩) | (go_at_call 71; refine (ref_sign_any _ _ _ hs hi).mono ?_; rintro e w' ⟨rfl, rfl⟩) | (go_at_call 70; refine (ref_number_any _ _ _ hs hi).mono ?_; rintro e w' ⟨rfl, rfl⟩) | (go_at_call 68; refine (ref_word_any _ _ _ hs (by omega)).mono ?_; rintro e w' ⟨rfl, rfl⟩))
    exact bodyPost_ret (results_c (P := Tryd.prog) rfl _ _ w.heap.size 47 _ _ rfl (Blk.new w 47 _) Tryd.underlying47 rfl (by kernel_rfl)) rfl ⟨rfl, hB _⟩

/-- What the specification's Tokens leaves: its record. -/
def RefPost (w : World) (r : Res) (e : Ending) (w' : World) : Prop :=
  ∃ v pos err, e = .returned (.agg #[v, .int .i64 pos, .int .i64 err]) ∧ TokRes w.heap.size r w' v pos err ∧ Below w.heap.size w w'

end Go.Proofs.YtemhiiignamkjaaDoor
namespace Go.Proofs.YtemhiiignamkjaaDoor
open Go.RowKit LexP

theorem tokenL_kind (l : List UInt8) : (tokenL l).1 ≠ 0 := by
  unfold tokenL
  split
  · simp
  · split
    · simp
    · split <;> simp

set_option maxRecDepth 100000 in
set_option maxHeartbeats 4000000 in
theorem ref_Tokens_any (s : ByteArray) (w : World) (hs : s.size ≤ 1048576) :
    Calls Tryd.prog 20 #[.string s] w (RefPost w (tokens s)) := by
  by_cases hbig : 4000 < s.size
  · go_enter Tryd.func20, Tryd.ntmps20
    go_wp2_with fail
    refine bodyPost_ret (results_c (P := Tryd.prog) rfl _ _ w.heap.size 44 _ _ rfl (Blk.new w 44 _) Tryd.underlying44 rfl (by kernel_rfl)) rfl ?_
    exact ⟨_, 0, 2, rfl, by unfold tokens TokRes; rw [if_pos hbig]; exact ⟨rfl, rfl, rfl⟩, (Below.refl _ _).alloc (Nat.le_refl _) _⟩
  · obtain ⟨i0, hi, hz0, hz1, hz2⟩ := info_parts tokInfo
    have hres : Hid (tokens s = scan s (skipB false s.data.toList) []) := by unfold Hid tokens; rw [if_neg hbig]
    have hsk := skipB_le false s.data.toList
    rw [len_bytes] at hsk
    have hc0 : Hid (∀ w, Calls Tryd.prog 48 #[.string s, .int .i64 0] w fun e w' => e = .returned (.int .i64 (skipB false s.data.toList)) ∧ w = w') := fun w =>
      (ref_skip_any s 0 w hs (Nat.zero_le _)).mono fun e w' h => ⟨by rw [h.1]; simp, h.2⟩
    go_enter Tryd.func20, Tryd.ntmps20
    go_wp2_with (go_at_call 48; refine (hc0.out _).mono ?_; rintro e w' ⟨rfl, rfl⟩)
    go_loopw [3, 4, 5] (fun v a _ wr => ∃ (k : Nat) (out : List Tok), k ≤ s.size ∧ out.length ≤ k ∧ a = .int .i64 k ∧ wr.ownsRow (w.heap.size + 1) 47 4 v out.length (toksCells out) ∧ Below w.heap.size w wr ∧ Blk wr w.heap.size 44 #[.slice none 0 0, .int .i64 0, .int .i64 0] ∧ Hid (tokens s = scan s k out)) (fun _ a _ _ => s.size - (intOf a).toNat)
    case atStart => exact ⟨_, [], hsk, Nat.zero_le _, rfl, World.ownsRow_nil _ _ _ _, (Below.refl _ _).alloc (Nat.le_refl _) _, Blk.new _ _ _, hres⟩
    case round =>
      obtain ⟨k, out, hk, hol, rfl, hown, hB, hblk, hsc⟩ := hrel
      have hBs := hblk.lt
      by_cases hlt : k < s.size
      · have hle := tokenL_le (s.data.toList.drop k)
        rw [List.length_drop, len_bytes] at hle
        have hval := tokenL_val (s.data.toList.drop k)
        have hk0 := tokenL_kind (s.data.toList.drop k)
        obtain ⟨n, hn⟩ : ∃ n, (tokenL (s.data.toList.drop k)).2.1 = n := ⟨_, rfl⟩
        obtain ⟨T, hT⟩ : ∃ T, tokAt s k = T := ⟨_, rfl⟩
        have hTn : Hid ((tokenL (s.data.toList.drop k)).2.2 = T.n) := by rw [← hT]; rfl
        have hTp : Hid (T.pos = k) := by rw [← hT]; rfl
        have hTk : T.kind ≠ 0 := by rw [← hT]; exact hk0
        rw [hn] at hle
        have hts : T.text.size = n := by
          rw [← hT]; unfold tokAt; rw [hn, ByteArray.size_extract]; omega
        have Hn := Lib.hid hn
        have HT := Lib.hid hT
        have ho : Hid (oneT s k = if n = 0 then ⟨0, ⟨#[]⟩, 0, 0⟩ else T) := by unfold Hid oneT; rw [Hn.out, HT.out]
        clear hn hT hval hk0
        by_cases h0 : n = 0
        · subst h0
          have ho2 : Hid (oneT s k = ⟨0, ⟨#[]⟩, 0, 0⟩) := by unfold Hid; rw [ho.out, if_pos rfl]
          clear hts
          go_wp2_with fail
          refine (ref_one_any s k _ hs hlt).mono ?_
          rintro e w1 ⟨rfl, hb1⟩
          rw [ho2.out]
          have hblk1 := hblk.below hb1 hBs
          have hc1 := hblk1.cell 0
          have hc2 := hblk1.cell 1
          have hc3 := hblk1.cell 2
          have hf1 := hblk1.frozen 0
          have hf2 := hblk1.frozen 1
          have hf3 := hblk1.frozen 2
          simp at hc1 hc2 hc3
          have hl1 := hblk1.lt
          unfold tokAgg
          go_wp2_with fail
          refine bodyPost_ret (results_c (P := Tryd.prog) rfl _ _ w.heap.size 44 #[.slice none 0 0, .int .i64 k, .int .i64 3] _ rfl (((hblk1.set_ 0 _).set_ 1 _).set_ 2 _ |>.alloc _) Tryd.underlying44 rfl (by kernel_rfl)) rfl ?_
          exact ⟨_, k, 3, rfl, by rw [hsc.out, scan_syntax _ _ _ hlt Hn.out]; exact ⟨rfl, rfl, rfl⟩,
            ((((hB.trans (hb1.mono hB.size)).setCell (p := ⟨w.heap.size, 0, none⟩) (Nat.le_refl _) _).setCell (p := ⟨w.heap.size, 1, none⟩) (Nat.le_refl _) _).setCell (p := ⟨w.heap.size, 2, none⟩) (Nat.le_refl _) _).alloc (by simp; omega) _⟩
        · have ho2 : Hid (oneT s k = T) := by unfold Hid; rw [ho.out, if_neg h0]
          have t0 : ((T.kind : Int) == 0) = false := beq_f (by omega)
          by_cases hbg : 1099511627776 < T.n
          · go_wp2_with fail
            refine (ref_one_any s k _ hs hlt).mono ?_
            rintro e w1 ⟨rfl, hb1⟩
            rw [ho2.out]
            have hblk1 := hblk.below hb1 hBs
            have hc1 := hblk1.cell 0
            have hc2 := hblk1.cell 1
            have hc3 := hblk1.cell 2
            have hf1 := hblk1.frozen 0
            have hf2 := hblk1.frozen 1
            have hf3 := hblk1.frozen 2
            simp at hc1 hc2 hc3
            have hl1 := hblk1.lt
            unfold tokAgg
            go_wp2_with fail
            refine bodyPost_ret (results_c (P := Tryd.prog) rfl _ _ w.heap.size 44 #[.slice none 0 0, .int .i64 k, .int .i64 2] _ rfl (((hblk1.set_ 0 _).set_ 1 _).set_ 2 _ |>.alloc _) Tryd.underlying44 rfl (by kernel_rfl)) rfl ?_
            exact ⟨_, k, 2, rfl, by rw [hsc.out, scan_limit _ _ _ hlt (by rw [Hn.out]; exact h0) (by rw [hTn.out]; exact hbg)]; exact ⟨rfl, rfl, rfl⟩,
              ((((hB.trans (hb1.mono hB.size)).setCell (p := ⟨w.heap.size, 0, none⟩) (Nat.le_refl _) _).setCell (p := ⟨w.heap.size, 1, none⟩) (Nat.le_refl _) _).setCell (p := ⟨w.heap.size, 2, none⟩) (Nat.le_refl _) _).alloc (by simp; omega) _⟩
          · go_wp2_with fail
            refine (ref_one_any s k _ hs hlt).mono ?_
            rintro e w1 ⟨rfl, hb1⟩
            rw [ho2.out]
            have hblk1 := hblk.below hb1 hBs
            have hl1 := hblk1.lt
            have hown1 := ownsRow_below hown hb1 (Nat.le_refl _)
            have hlen : Hid (out.length + 1 ≤ maxLen) := by unfold Hid maxLen; omega
            unfold tokAgg
            go_wp2_with (at_builtin; refine wpList_append_own _ rfl _ _ 42 rfl (w.heap.size + 1) 47 i0 _ 4 40 Tryd.underlying42 hi hz0 hz1 hz2 rfl (by decide) _ out.length (toksCells out) rfl ((hown1.alloc _).alloc _) ⟨w1.heap.size + 1, 0, none⟩ 1 1 [.int .i64 T.kind, .string T.text, .int .i64 T.n, .int .i64 T.pos] rfl rfl ?c1 ?c2 ?c3 ?c4 ?c5 ?_)
            case c1 =>
              have := news_cells (Blk.new (w1.alloc (.cells #[.int .i64 T.kind, .string T.text, .int .i64 T.n, .int .i64 T.pos] 47)) 47 #[.int .i64 T.kind, .string T.text, .int .i64 T.n, .int .i64 T.pos])
              rw [World.size_alloc] at this
              exact this
            case c2 => simp [Value.oneCell']
            case c3 => exact hlen.out
            case c4 => omega
            case c5 => simp; omega
            intro v' w3 hown3 hg3 _
            have hB3 : Below w.heap.size w w3 := (((hB.trans (hb1.mono hB.size)).alloc (by omega) _).alloc (by simp; omega) _).grown hg3 (by simp; omega) (fun g e => by have := (hown1.lt g e).1; omega)
            have hblk3 : Blk w3 w.heap.size 44 #[.slice none 0 0, .int .i64 0, .int .i64 0] := ((hblk1.alloc _).alloc _).grown hg3 (fun e => by have := (hown1.lt _ e.symm).1; omega)
            have htb : Blk w3 w1.heap.size 47 #[.int .i64 T.kind, .string T.text, .int .i64 T.n, .int .i64 T.pos] := ((Blk.new w1 _ _).alloc _).grown hg3 (fun e => by have := (hown1.lt _ e.symm).2; omega)
            have hct := htb.cell 1
            simp at hct
            clear hg3
            have hnx2 : Hid (next s k = k + n + skipB false (s.data.toList.drop (k + n))) := by unfold Hid next; rw [Hn.out]
            have hsk2 := skipB_le false (s.data.toList.drop (k + n))
            rw [List.length_drop, len_bytes] at hsk2
            have hsc2 : Hid (tokens s = scan s (k + n + skipB false (s.data.toList.drop (k + n))) (out ++ [T])) := by
              unfold Hid
              rw [hsc.out, scan_step _ _ _ hlt (by rw [Hn.out]; exact h0) (by rw [hTn.out]; exact hbg), HT.out, hnx2.out]
            have hsk3 : Hid (∀ w, Calls Tryd.prog 48 #[.string s, .int .i64 ((k : Int) + n)] w fun e w' => e = .returned (.int .i64 ((k : Int) + n + skipB false (s.data.toList.drop (k + n)))) ∧ w = w') := fun w =>
              (ref_skip_any s (k + n) w hs (by omega)).mono fun e w' h => ⟨by rw [h.1]; simp, h.2⟩
            go_wp2_with (go_at_call 48; refine (hsk3.out _).mono ?_; rintro e w' ⟨rfl, rfl⟩)
            go_roundw
            case rel =>
              refine ⟨k + n + skipB false (s.data.toList.drop (k + n)), out ++ [T], by omega, by simp; omega, by go_num, ?_, hB3, hblk3, hsc2⟩
              rw [toksCells_snoc, List.length_append]
              exact hown3
            case measure => simp [intOf]; omega
      · have hend : Hid (tokens s = .ok out) := by unfold Hid; rw [hsc.out, scan_end _ _ _ (by omega)]
        have hc1 := hblk.cell 0
        have hc2 := hblk.cell 1
        have hc3 := hblk.cell 2
        have hf1 := hblk.frozen 0
        have hf2 := hblk.frozen 1
        have hf3 := hblk.frozen 2
        simp at hc1 hc2 hc3
        have hform := Joins.ownsRow_forms hown
        have hown' := Lib.hid hown
        rcases hform with ⟨rfl, hz⟩ | ⟨g, cap, rfl⟩
        all_goals
          go_wp2_with fail
          refine bodyPost_ret (results_c (P := Tryd.prog) rfl _ _ w.heap.size 44 #[_, .int .i64 0, .int .i64 0] _ rfl (((hblk.set_ 0 _).set_ 1 _).set_ 2 _) Tryd.underlying44 rfl (by kernel_rfl)) rfl ?_
          refine ⟨_, 0, 0, rfl, ?_, ((hB.setCell (p := ⟨w.heap.size, 0, none⟩) (Nat.le_refl _) _).setCell (p := ⟨w.heap.size, 1, none⟩) (Nat.le_refl _) _).setCell (p := ⟨w.heap.size, 2, none⟩) (Nat.le_refl _) _⟩
          rw [hend.out]
          refine ⟨rfl, rfl, ?_⟩
          exact Joins.ownsRow_le (ownsRow_setCell_below (ownsRow_setCell_below (ownsRow_setCell_below hown'.out (Nat.lt_succ_self _) _) (Nat.lt_succ_self _) _) (Nat.lt_succ_self _) _) (Nat.le_succ _)
end Go.Proofs.YtemhiiignamkjaaDoor
