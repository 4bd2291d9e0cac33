/-
  The walks of layer 11's specification: signs, and the token at an index.
-/
import Derived.Test.YtemhiiignamkjaaDoorLexR3
import Derived.Test.YtemhiiignamkjaaDoorLexW5
namespace Go.Proofs.YtemhiiignamkjaaDoor
open Go.RowKit LexP

theorem isArrow_atI (s : ByteArray) (k : Nat) : isArrow (s.data.toList.drop k) = (((atI s k).toNat == 45) && ((atI s ((k : Int) + 1)).toNat == 62)) := by
  have e : atI s ((k : Int) + 1) = atI s (k + 1 : Nat) := rfl
  rw [e]
  rcases Nat.lt_or_ge k s.size with h | h
  · rw [drop_atI s k h]
    rcases Nat.lt_or_ge (k + 1) s.size with h2 | h2
    · rw [drop_atI s (k + 1) h2]; rfl
    · rw [List.drop_eq_nil_of_le (by rw [len_bytes]; exact h2), atI_ge s (k + 1) h2]
      simp [isArrow]
  · rw [List.drop_eq_nil_of_le (by rw [len_bytes]; exact h), atI_ge s k h]; rfl

set_option maxRecDepth 100000 in
set_option maxHeartbeats 4000000 in
theorem ref_sign_any (s : ByteArray) (i : Nat) (w : World) (hs : s.size ≤ 1048576) (hi : i < s.size) :
    Calls Tryd.prog 71 #[.string s, .int .i64 i] w fun e w' => e = .returned (.int .i64 (i + signL (s.data.toList.drop i) : Nat)) ∧ w = w' := by
  have hb := Lib.hid (atI_lt s i hi)
  have hv : Hid (signL (s.data.toList.drop i) = bif (s[i].toNat == 45) && ((atI s ((i : Int) + 1)).toNat == 62) then 2 else bif isSign s[i] then 1 else 0) := by
    have := isArrow_atI s i
    rw [hb.out] at this
    unfold Hid
    rw [← this, drop_at s i hi]; rfl
  by_cases hA : s[i].toNat = 45 ∧ (atI s ((i : Int) + 1)).toNat = 62
  · obtain ⟨h1, h2⟩ := hA
    have t1 : ((s[i].toNat : Int) == 45) = true := beq_t (by omega)
    have t2 : (((atI s ((i : Int) + 1)).toNat : Int) == 62) = true := beq_t (by omega)
    have hf : Hid (signL (s.data.toList.drop i) = 2) := by unfold Hid; rw [hv.out, h1, h2]; rfl
    clear h1 h2
    go_enter Tryd.func71, Tryd.ntmps71
    go_wp2_with (go_at_call 86; refine (ref_at_any _ _ _ (by omega) (by omega)).mono ?_; rintro e w' ⟨rfl, rfl⟩)
    go_ret
    exact ⟨ret_int (by have := hf.out; omega), rfl⟩
  have hv2 : Hid (signL (s.data.toList.drop i) = bif isSign s[i] then 1 else 0) := by
    have : ((s[i].toNat == 45) && ((atI s ((i : Int) + 1)).toNat == 62)) = false := by
      rw [Bool.and_eq_false_iff, beq_eq_false_iff_ne, beq_eq_false_iff_ne]
      by_cases h1 : s[i].toNat = 45
      · exact .inr (fun h2 => hA ⟨h1, h2⟩)
      · exact .inl h1
    unfold Hid; rw [hv.out, this]; rfl
  by_cases h45 : s[i].toNat = 45
  · have t1 : ((s[i].toNat : Int) == 45) = true := beq_t (by omega)
    have t2 : (((atI s ((i : Int) + 1)).toNat : Int) == 62) = false := beq_f (fun h => hA ⟨h45, by omega⟩)
    have u123 : ((s[i].toNat : Int) == 123) = false := beq_f (by omega)
    have u125 : ((s[i].toNat : Int) == 125) = false := beq_f (by omega)
    have u40 : ((s[i].toNat : Int) == 40) = false := beq_f (by omega)
    have u41 : ((s[i].toNat : Int) == 41) = false := beq_f (by omega)
    have u59 : ((s[i].toNat : Int) == 59) = false := beq_f (by omega)
    have u44 : ((s[i].toNat : Int) == 44) = false := beq_f (by omega)
    have u61 : ((s[i].toNat : Int) == 61) = false := beq_f (by omega)
    have hf : Hid (signL (s.data.toList.drop i) = 0) := by
      have : isSign s[i] = false := by unfold isSign; rw [h45]; rfl
      unfold Hid; rw [hv2.out, this]; rfl
    clear h45 hA
    go_enter Tryd.func71, Tryd.ntmps71
    go_wp2_with (go_at_call 86; refine (ref_at_any _ _ _ (by omega) (by omega)).mono ?_; rintro e w' ⟨rfl, rfl⟩)
    go_ret
    exact ⟨ret_int (by have := hf.out; omega), rfl⟩
  have t1 : ((s[i].toNat : Int) == 45) = false := beq_f (by omega)
  clear hA
  by_cases h123 : s[i].toNat = 123
  · have u123 : ((s[i].toNat : Int) == 123) = true := beq_t (by omega)
    have hf : Hid (signL (s.data.toList.drop i) = 1) := by
      have : isSign s[i] = true := by unfold isSign; rw [h123]; rfl
      unfold Hid; rw [hv2.out, this]; rfl
    clear h123 h45
    go_enter Tryd.func71, Tryd.ntmps71
    go_wp2_with fail
    go_ret
    exact ⟨ret_int (by have := hf.out; omega), rfl⟩
  have u123 : ((s[i].toNat : Int) == 123) = false := beq_f (by omega)
  by_cases h125 : s[i].toNat = 125
  · have u125 : ((s[i].toNat : Int) == 125) = true := beq_t (by omega)
    have hf : Hid (signL (s.data.toList.drop i) = 1) := by
      have : isSign s[i] = true := by unfold isSign; rw [h125]; rfl
      unfold Hid; rw [hv2.out, this]; rfl
    clear h125 h45
    go_enter Tryd.func71, Tryd.ntmps71
    go_wp2_with fail
    go_ret
    exact ⟨ret_int (by have := hf.out; omega), rfl⟩
  have u125 : ((s[i].toNat : Int) == 125) = false := beq_f (by omega)
  by_cases h40 : s[i].toNat = 40
  · have u40 : ((s[i].toNat : Int) == 40) = true := beq_t (by omega)
    have hf : Hid (signL (s.data.toList.drop i) = 1) := by
      have : isSign s[i] = true := by unfold isSign; rw [h40]; rfl
      unfold Hid; rw [hv2.out, this]; rfl
    clear h40 h45
    go_enter Tryd.func71, Tryd.ntmps71
    go_wp2_with fail
    go_ret
    exact ⟨ret_int (by have := hf.out; omega), rfl⟩
  have u40 : ((s[i].toNat : Int) == 40) = false := beq_f (by omega)
  by_cases h41 : s[i].toNat = 41
  · have u41 : ((s[i].toNat : Int) == 41) = true := beq_t (by omega)
    have hf : Hid (signL (s.data.toList.drop i) = 1) := by
      have : isSign s[i] = true := by unfold isSign; rw [h41]; rfl
      unfold Hid; rw [hv2.out, this]; rfl
    clear h41 h45
    go_enter Tryd.func71, Tryd.ntmps71
    go_wp2_with fail
    go_ret
    exact ⟨ret_int (by have := hf.out; omega), rfl⟩
  have u41 : ((s[i].toNat : Int) == 41) = false := beq_f (by omega)
  by_cases h59 : s[i].toNat = 59
  · have u59 : ((s[i].toNat : Int) == 59) = true := beq_t (by omega)
    have hf : Hid (signL (s.data.toList.drop i) = 1) := by
      have : isSign s[i] = true := by unfold isSign; rw [h59]; rfl
      unfold Hid; rw [hv2.out, this]; rfl
    clear h59 h45
    go_enter Tryd.func71, Tryd.ntmps71
    go_wp2_with fail
    go_ret
    exact ⟨ret_int (by have := hf.out; omega), rfl⟩
  have u59 : ((s[i].toNat : Int) == 59) = false := beq_f (by omega)
  by_cases h44 : s[i].toNat = 44
  · have u44 : ((s[i].toNat : Int) == 44) = true := beq_t (by omega)
    have hf : Hid (signL (s.data.toList.drop i) = 1) := by
      have : isSign s[i] = true := by unfold isSign; rw [h44]; rfl
      unfold Hid; rw [hv2.out, this]; rfl
    clear h44 h45
    go_enter Tryd.func71, Tryd.ntmps71
    go_wp2_with fail
    go_ret
    exact ⟨ret_int (by have := hf.out; omega), rfl⟩
  have u44 : ((s[i].toNat : Int) == 44) = false := beq_f (by omega)
  by_cases h61 : s[i].toNat = 61
  · have u61 : ((s[i].toNat : Int) == 61) = true := beq_t (by omega)
    have hf : Hid (signL (s.data.toList.drop i) = 1) := by
      have : isSign s[i] = true := by unfold isSign; rw [h61]; rfl
      unfold Hid; rw [hv2.out, this]; rfl
    clear h61 h45
    go_enter Tryd.func71, Tryd.ntmps71
    go_wp2_with fail
    go_ret
    exact ⟨ret_int (by have := hf.out; omega), rfl⟩
  have u61 : ((s[i].toNat : Int) == 61) = false := beq_f (by omega)
  have hf : Hid (signL (s.data.toList.drop i) = 0) := by
    have : isSign s[i] = false := by
      unfold isSign
      simp only [Bool.or_eq_false_iff, beq_eq_false_iff_ne]
      exact ⟨⟨⟨⟨⟨⟨h123, h125⟩, h40⟩, h41⟩, h59⟩, h44⟩, h61⟩
    unfold Hid; rw [hv2.out, this]; rfl
  go_enter Tryd.func71, Tryd.ntmps71
  go_wp2_with fail
  go_ret
  exact ⟨ret_int (by have := hf.out; omega), rfl⟩

/-- What the specification's 'one' returns: the token, or the zero token. -/
def oneT (s : ByteArray) (i : Nat) : Tok := if (tokenL (s.data.toList.drop i)).2.1 = 0 then ⟨0, ⟨#[]⟩, 0, 0⟩ else tokAt s i

end Go.Proofs.YtemhiiignamkjaaDoor
