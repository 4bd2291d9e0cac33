/-
  Plain mathematics of layer 11 (lex): tokens before a blank or a newline; a token by itself; texts put together.
-/
import Derived.Test.YtemhiiignamkjaaDoorLexPlain4
namespace Go.Proofs.YtemhiiignamkjaaDoor
namespace LexP

/-- What follows is nothing, a blank or a newline. -/
def Soft (r : List UInt8) : Prop := ∀ c t, r = c :: t → c.toNat = 32 ∨ c.toNat = 10

theorem soft_nil : Soft [] := fun _ _ h => by cases h
theorem soft_cons {c : UInt8} {t : List UInt8} (h : c.toNat = 32 ∨ c.toNat = 10) : Soft (c :: t) := fun _ _ e => by cases e; exact h

theorem isL_soft {c : UInt8} (h : c.toNat = 32 ∨ c.toNat = 10) : isL c = false := decide_eq_false (by omega)
theorem isD_soft {c : UInt8} (h : c.toNat = 32 ∨ c.toNat = 10) : isD c = false := decide_eq_false (by omega)
theorem isE_soft {c : UInt8} (h : c.toNat = 32 ∨ c.toNat = 10) : isE c = false := by unfold isE; rw [isL_soft h, isD_soft h]; rfl

theorem headE_soft (x r : List UInt8) (h : Soft r) : headE (x ++ r) = headE x := by
  cases x with
  | cons c t => rfl
  | nil =>
    cases r with
    | nil => rfl
    | cons c t => exact isE_soft (h c t rfl)
theorem headU_soft (x r : List UInt8) (h : Soft r) : headU (x ++ r) = headU x := by
  cases x with
  | cons c t => rfl
  | nil =>
    cases r with
    | nil => rfl
    | cons c t =>
      show unitN c = 0
      unfold unitN
      rcases h c t rfl with e | e <;> simp [e]

theorem wordL_soft (r : List UInt8) (h : Soft r) : ∀ x : List UInt8, wordL (x ++ r) = wordL x
  | [] => by
    cases r with
    | nil => rfl
    | cons c t =>
      have h45 : (c.toNat == 45) = false := by rcases h c t rfl with e | e <;> simp [e]
      simp [wordL, isE_soft (h c t rfl), h45]
  | c :: x => by
    have ih := wordL_soft r h x
    simp only [List.cons_append, wordL, headE_soft x r h, ih]

theorem runD_soft (r : List UInt8) (h : Soft r) : ∀ x : List UInt8, runL isD (x ++ r) = runL isD x
  | [] => by
    cases r with
    | nil => rfl
    | cons c t => simp [runL, isD_soft (h c t rfl)]
  | c :: x => by
    have ih := runD_soft r h x
    simp only [List.cons_append, runL, ih]

theorem numberL_soft (r : List UInt8) (h : Soft r) (x : List UInt8) : numberL (x ++ r) = numberL x := by
  have hle := runL_le isD x
  have e1 : (1 < runL isD x ∧ (x ++ r).head? = some 48) ↔ (1 < runL isD x ∧ x.head? = some 48) := by
    cases x with
    | nil => simp [runL]
    | cons c t => simp
  have e2 : headU ((x ++ r).drop (runL isD x)) = headU (x.drop (runL isD x)) := by
    rw [List.drop_append_of_le_length hle, headU_soft _ _ h]
  have e3 : headE ((x ++ r).drop (runL isD x)) = headE (x.drop (runL isD x)) := by
    rw [List.drop_append_of_le_length hle, headE_soft _ _ h]
  have e4 : (x ++ r).take (runL isD x) = x.take (runL isD x) := List.take_append_of_le_length hle
  unfold numberL
  rw [runD_soft r h x]
  by_cases c1 : 1 < runL isD x ∧ x.head? = some 48
  · rw [if_pos (e1.2 c1), if_pos c1]
  · rw [if_neg (fun c => c1 (e1.1 c)), if_neg c1, e2, e3, e4]
    by_cases c2 : 0 < headU (x.drop (runL isD x))
    · have hlt : runL isD x + 1 ≤ x.length := by
        rcases Nat.lt_or_ge (runL isD x) x.length with h1 | h1
        · exact h1
        · rw [List.drop_eq_nil_of_le h1] at c2; exact absurd c2 (by simp [headU])
      have e5 : headE ((x ++ r).drop (runL isD x + 1)) = headE (x.drop (runL isD x + 1)) := by
        rw [List.drop_append_of_le_length hlt, headE_soft _ _ h]
      rw [if_pos c2, if_pos c2, e5]
    · rw [if_neg c2, if_neg c2]

theorem signL_soft (r : List UInt8) (h : Soft r) : ∀ x : List UInt8, x ≠ [] → signL (x ++ r) = signL x
  | [], hx => absurd rfl hx
  | [c], _ => by
    cases r with
    | nil => rfl
    | cons d t =>
      have h62 : (d.toNat == 62) = false := by rcases h d t rfl with e | e <;> simp [e]
      simp [signL, isArrow, h62]
  | c :: d :: t, _ => by simp [signL, isArrow]

theorem tokenL_soft (r : List UInt8) (h : Soft r) (x : List UInt8) (hx : x ≠ []) : tokenL (x ++ r) = tokenL x := by
  have h1 := wordL_soft r h x
  have h2 := numberL_soft r h x
  have h3 := signL_soft r h x hx
  cases x with
  | nil => exact absurd rfl hx
  | cons c t =>
    rw [List.cons_append] at h1 h2 h3 ⊢
    unfold tokenL
    simp only [h1, h2, h3]

theorem wordL_take : ∀ x : List UInt8, wordL (x.take (wordL x)) = wordL x
  | [] => rfl
  | c :: t => by
    have ih := wordL_take t
    simp only [wordL]
    cases hc : (isE c || ((c.toNat == 45) && headE t)) with
    | false => simp [wordL]
    | true =>
      simp only [cond_true, List.take_succ_cons, wordL]
      have hh : (isE c || ((c.toNat == 45) && headE (t.take (wordL t)))) = true := by
        cases he : isE c with
        | true => rfl
        | false =>
          rw [he] at hc
          simp only [Bool.false_or, Bool.and_eq_true] at hc ⊢
          refine ⟨hc.1, ?_⟩
          cases t with
          | nil => exact hc.2
          | cons d u =>
            have hd : isE d = true := hc.2
            simp only [wordL, hd, Bool.true_or, cond_true, List.take_succ_cons]
            exact hd
      rw [hh, cond_true, ih]

theorem runD_take (x : List UInt8) (n : Nat) (h : runL isD x ≤ n) : runL isD (x.take n) = runL isD x := by
  induction x generalizing n with
  | nil => simp [runL]
  | cons c t ih =>
    simp only [runL] at h ⊢
    cases n with
    | zero =>
      cases hc : isD c with
      | false => simp [runL]
      | true => rw [hc] at h; simp at h
    | succ n =>
      simp only [List.take_succ_cons, runL]
      cases hc : isD c with
      | false => rfl
      | true =>
        rw [hc] at h
        simp only [cond_true] at h ⊢
        rw [ih n (by omega)]

theorem numberL_take (x : List UInt8) (h : (numberL x).1 ≠ 0) : numberL (x.take (numberL x).1) = numberL x := by
  have hle := runL_le isD x
  by_cases c1 : 1 < runL isD x ∧ x.head? = some 48
  · exact absurd (by unfold numberL; rw [if_pos c1]) h
  by_cases c2 : 0 < headU (x.drop (runL isD x))
  · by_cases c3 : headE (x.drop (runL isD x + 1)) = true
    · exact absurd (by unfold numberL; rw [if_neg c1, if_pos c2, if_pos c3]) h
    · have e0 : numberL x = (runL isD x + 1, min (valL 0 (x.take (runL isD x)) * headU (x.drop (runL isD x))) 1099511627777) := by
        unfold numberL; rw [if_neg c1, if_pos c2, if_neg c3]
      have hlt : runL isD x < x.length := by
        rcases Nat.lt_or_ge (runL isD x) x.length with h1 | h1
        · exact h1
        · rw [List.drop_eq_nil_of_le h1] at c2; exact absurd c2 (by simp [headU])
      rw [e0]
      have e1 : runL isD (x.take (runL isD x + 1)) = runL isD x := runD_take x _ (by omega)
      have e2 : headU ((x.take (runL isD x + 1)).drop (runL isD x)) = headU (x.drop (runL isD x)) := by
        rw [List.drop_take, show runL isD x + 1 - runL isD x = 1 by omega, List.drop_eq_getElem_cons hlt]; rfl
      have e3 : (x.take (runL isD x + 1)).drop (runL isD x + 1) = [] := List.drop_eq_nil_of_le (by rw [List.length_take]; omega)
      have e4 : (x.take (runL isD x + 1)).take (runL isD x) = x.take (runL isD x) := by rw [List.take_take, Nat.min_eq_left (by omega)]
      have e5 : (x.take (runL isD x + 1)).head? = x.head? := by cases x <;> simp
      unfold numberL
      rw [e1, e5, if_neg c1, e2, if_pos c2, e3, e4]
      rfl
  · by_cases c3 : headE (x.drop (runL isD x)) = true
    · exact absurd (by unfold numberL; rw [if_neg c1, if_neg c2, if_pos c3]) h
    · have e0 : numberL x = (runL isD x, valL 0 (x.take (runL isD x))) := by
        unfold numberL; rw [if_neg c1, if_neg c2, if_neg c3]
      rw [e0] at h ⊢
      simp only at h ⊢
      have e1 : runL isD (x.take (runL isD x)) = runL isD x := runD_take x _ (Nat.le_refl _)
      have e3 : (x.take (runL isD x)).drop (runL isD x) = [] := List.drop_eq_nil_of_le (by rw [List.length_take]; omega)
      have e4 : (x.take (runL isD x)).take (runL isD x) = x.take (runL isD x) := by rw [List.take_take, Nat.min_self]
      have e5 : (x.take (runL isD x)).head? = x.head? := by
        cases x with
        | nil => simp
        | cons c t => rw [List.head?_take, if_neg h]
      unfold numberL
      rw [e1, e5, if_neg c1, e3, e4, if_neg (by simp [headU])]
      rfl

theorem signL_take : ∀ x : List UInt8, signL (x.take (signL x)) = signL x
  | [] => rfl
  | [c] => by simp only [signL, isArrow]; cases hs : isSign c <;> simp [hs]
  | c :: d :: t => by
    simp only [signL]
    cases ha : isArrow (c :: d :: t) with
    | true => simp only [cond_true, List.take_succ_cons, List.take_zero]; rw [show isArrow [c, d] = isArrow (c :: d :: t) from rfl, ha]; rfl
    | false =>
      cases hs : isSign c with
      | true => simp only [cond_true, cond_false, List.take_succ_cons, List.take_zero, isArrow, hs]
      | false => simp

theorem tokenL_take (x : List UInt8) (h : (tokenL x).2.1 ≠ 0) : tokenL (x.take (tokenL x).2.1) = tokenL x := by
  cases x with
  | nil => rfl
  | cons c t =>
    by_cases hl : isL c = true
    · have e : tokenL (c :: t) = (1, wordL (c :: t), 0) := by unfold tokenL; simp only [hl, if_true]
      have hw := wordL_take (c :: t)
      rw [e] at h ⊢
      simp only at h ⊢
      obtain ⟨k, hk⟩ := Nat.exists_eq_succ_of_ne_zero h
      rw [hk, List.take_succ_cons] at hw ⊢
      unfold tokenL
      simp only [hl, if_true, hw]
    · by_cases hd : isD c = true
      · have e : tokenL (c :: t) = (2, (numberL (c :: t)).1, (numberL (c :: t)).2) := by unfold tokenL; simp only [hl, hd, if_true]; rfl
        rw [e] at h ⊢
        simp only at h ⊢
        have hw := numberL_take (c :: t) h
        obtain ⟨k, hk⟩ := Nat.exists_eq_succ_of_ne_zero h
        have e2 : (c :: t).take (numberL (c :: t)).1 = c :: t.take k := by rw [hk, List.take_succ_cons]
        rw [e2] at hw ⊢
        unfold tokenL
        simp only [hl, hd, if_true, hw]
        rfl
      · have e : tokenL (c :: t) = (3, signL (c :: t), 0) := by unfold tokenL; simp only [hl, hd]; rfl
        have hw := signL_take (c :: t)
        rw [e] at h ⊢
        simp only at h ⊢
        obtain ⟨k, hk⟩ := Nat.exists_eq_succ_of_ne_zero h
        rw [hk, List.take_succ_cons] at hw ⊢
        unfold tokenL
        simp only [hl, hd, hw]
        rfl

/-- The first byte of a token is neither blank nor the beginning of a comment. -/
theorem skipB_token (x : List UInt8) (h : (tokenL x).2.1 ≠ 0) : skipB false x = 0 := by
  cases x with
  | nil => rfl
  | cons c t =>
    by_cases hb : isBlank c = true ∨ c.toNat = 35
    · exfalso
      apply h
      have hc : c.toNat = 32 ∨ c.toNat = 9 ∨ c.toNat = 10 ∨ c.toNat = 35 := by
        rcases hb with hb | hb
        · unfold isBlank at hb; simp at hb; omega
        · omega
      have hl : isL c = false := decide_eq_false (by omega)
      have hd : isD c = false := decide_eq_false (by omega)
      have hs : isSign c = false := by
        unfold isSign
        simp only [Bool.or_eq_false_iff, beq_eq_false_iff_ne]
        omega
      have ha : isArrow (c :: t) = false := by
        cases t with
        | nil => rfl
        | cons d u =>
          have : (c.toNat == 45) = false := beq_eq_false_iff_ne.2 (by omega)
          simp [isArrow, this]
      unfold tokenL
      simp only [hl, hd, signL, ha, hs]
      rfl
    · exact skipB_stop c t (by simpa using fun h => hb (.inl h)) (fun h => hb (.inr h))
end LexP
end Go.Proofs.YtemhiiignamkjaaDoor
