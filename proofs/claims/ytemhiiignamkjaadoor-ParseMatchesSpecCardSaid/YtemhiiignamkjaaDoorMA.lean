/-
  The plain mathematics of layer 11 (lex): how a text is cut into tokens, said over lists of bytes. No program here.
  More plain mathematics of layer 11 (lex): lengths and values of tokens.
  How a text is cut into tokens (layer 11): the scan, token by token. Plain, no program.
-/

namespace Go.Proofs.YtemhiiignamkjaaDoor
namespace LexP

def isL (c : UInt8) : Bool := decide (97 ≤ c.toNat ∧ c.toNat ≤ 122)
def isD (c : UInt8) : Bool := decide (48 ≤ c.toNat ∧ c.toNat ≤ 57)
def isE (c : UInt8) : Bool := isL c || isD c
def notNl (c : UInt8) : Bool := !(c.toNat == 10)

/-- The length of the longest beginning whose bytes satisfy p. -/
def runL (p : UInt8 → Bool) : List UInt8 → Nat
  | [] => 0
  | c :: r => bif p c then runL p r + 1 else 0

theorem runL_le (p : UInt8 → Bool) (l : List UInt8) : runL p l ≤ l.length := by
  induction l with
  | nil => simp [runL]
  | cons c r ih => simp only [runL, List.length_cons]; cases p c <;> simp <;> omega

/-- All of the first k satisfy p: the run is k and that of the rest. -/
theorem runL_drop (p : UInt8 → Bool) : ∀ (l : List UInt8) (k : Nat), k ≤ l.length → (∀ j c, j < k → l[j]? = some c → p c = true) → runL p l = k + runL p (l.drop k)
  | l, 0, _, _ => by simp
  | [], k + 1, h, _ => by simp at h
  | c :: r, k + 1, h, hp => by
    have h0 := hp 0 c (by omega) rfl
    have := runL_drop p r k (by simpa using h) (fun j d hj hd => hp (j + 1) d (by omega) (by simpa using hd))
    simp only [runL, h0, cond_true, List.drop_succ_cons]
    omega

theorem runL_stop (p : UInt8 → Bool) (l : List UInt8) (k : Nat) (c : UInt8) (hk : l[k]? = some c) (hc : p c = false) (hp : ∀ j d, j < k → l[j]? = some d → p d = true) : runL p l = k := by
  have hlt : k < l.length := (List.getElem?_eq_some_iff.1 hk).1
  rw [runL_drop p l k (by omega) hp, List.drop_eq_getElem_cons hlt]
  have : l[k] = c := by simpa [List.getElem?_eq_getElem hlt] using hk
  simp [runL, this, hc]

theorem runL_all (p : UInt8 → Bool) (l : List UInt8) (hp : ∀ j d, j < l.length → l[j]? = some d → p d = true) : runL p l = l.length := by
  rw [runL_drop p l l.length (Nat.le_refl _) hp]; simp [runL]

theorem runL_spec (p : UInt8 → Bool) : ∀ (l : List UInt8) (j : Nat) (c : UInt8), j < runL p l → l[j]? = some c → p c = true
  | [], j, c, h, hj => by simp at hj
  | d :: r, j, c, h, hj => by
    simp only [runL] at h
    cases hd : p d with
    | false => simp [hd] at h
    | true =>
      simp only [hd, cond_true] at h
      cases j with
      | zero => simp at hj; subst hj; exact hd
      | succ j => exact runL_spec p r j c (by omega) (by simpa using hj)

theorem runL_at (p : UInt8 → Bool) : ∀ (l : List UInt8) (c : UInt8), l[runL p l]? = some c → p c = false
  | [], c, h => by simp [runL] at h
  | d :: r, c, h => by
    simp only [runL] at h
    cases hd : p d with
    | false => simp [hd] at h; subst h; exact hd
    | true => simp only [hd, cond_true, List.getElem?_cons_succ] at h; exact runL_at p r c h

def isBlank (c : UInt8) : Bool := (c.toNat == 32) || (c.toNat == 9) || (c.toNat == 10)

/-- The length of the blanks and comments at the beginning (true: inside a comment). -/
def skipB : Bool → List UInt8 → Nat
  | _, [] => 0
  | false, c :: r => bif isBlank c then skipB false r + 1 else bif c.toNat == 35 then skipB true r + 1 else 0
  | true, c :: r => bif c.toNat == 10 then skipB false r + 1 else skipB true r + 1

theorem skipB_le : ∀ (b : Bool) (l : List UInt8), skipB b l ≤ l.length
  | _, [] => by simp [skipB]
  | false, c :: r => by
    have h1 := skipB_le false r; have h2 := skipB_le true r
    simp only [skipB, List.length_cons]
    cases isBlank c <;> cases (c.toNat == 35) <;> simp <;> omega
  | true, c :: r => by
    have h1 := skipB_le false r; have h2 := skipB_le true r
    simp only [skipB, List.length_cons]
    cases (c.toNat == 10) <;> simp <;> omega

theorem skipB_run : ∀ (l : List UInt8), skipB true l = runL notNl l + skipB false (l.drop (runL notNl l))
  | [] => by simp [skipB, runL]
  | c :: r => by
    simp only [skipB, runL, notNl]
    cases h : (c.toNat == 10) with
    | true => simp [skipB, isBlank, h]
    | false =>
      have := skipB_run r
      simp only [Bool.not_false, cond_true, cond_false, List.drop_succ_cons]
      omega

theorem skipB_hash (c : UInt8) (r : List UInt8) (hc : c.toNat = 35) : skipB false (c :: r) = runL notNl (c :: r) + skipB false ((c :: r).drop (runL notNl (c :: r))) := by
  have := skipB_run r
  simp only [skipB, runL, notNl, isBlank, hc]
  simp
  omega

theorem skipB_blank (c : UInt8) (r : List UInt8) (hc : isBlank c = true) : skipB false (c :: r) = 1 + skipB false r := by
  simp only [skipB, hc, cond_true]; omega

theorem skipB_stop (c : UInt8) (r : List UInt8) (hc : isBlank c = false) (h35 : c.toNat ≠ 35) : skipB false (c :: r) = 0 := by
  have : (c.toNat == 35) = false := beq_eq_false_iff_ne.2 h35
  simp [skipB, hc, this]

def headE : List UInt8 → Bool
  | [] => false
  | d :: _ => isE d

/-- The length of the word at the beginning. -/
def wordL : List UInt8 → Nat
  | [] => 0
  | c :: r => bif isE c || ((c.toNat == 45) && headE r) then wordL r + 1 else 0

theorem wordL_le : ∀ l : List UInt8, wordL l ≤ l.length
  | [] => by simp [wordL]
  | c :: r => by
    have := wordL_le r
    simp only [wordL, List.length_cons]
    cases (isE c || ((c.toNat == 45) && headE r)) <;> simp <;> omega

theorem wordL_run : ∀ l : List UInt8, wordL l = runL isE l + wordL (l.drop (runL isE l))
  | [] => by simp [wordL, runL]
  | c :: r => by
    have := wordL_run r
    cases h : isE c with
    | true => simp only [wordL, runL, h, Bool.true_or, cond_true, List.drop_succ_cons]; omega
    | false => simp [runL, h]

theorem headE_run : ∀ l : List UInt8, headE (l.drop (runL isE l)) = false
  | [] => by simp [runL, headE]
  | c :: r => by
    cases h : isE c with
    | true => simp only [runL, h, cond_true, List.drop_succ_cons]; exact headE_run r
    | false => simp [runL, h, headE]

theorem wordL_dash (c : UInt8) (r : List UInt8) (hc : c.toNat = 45) (hr : headE r = true) : wordL (c :: r) = 1 + wordL r := by
  simp [wordL, hc, hr]; omega

theorem wordL_stop (l : List UInt8) (h : headE l = false) (hd : ∀ c r, l = c :: r → c.toNat = 45 → headE r = false) : wordL l = 0 := by
  cases l with
  | nil => rfl
  | cons c r =>
    have h1 : isE c = false := h
    cases h2 : (c.toNat == 45) with
    | false => simp [wordL, h1, h2]
    | true => simp [wordL, h1, hd c r rfl (beq_iff_eq.1 h2)]

def isSign (c : UInt8) : Bool := (c.toNat == 123) || (c.toNat == 125) || (c.toNat == 40) || (c.toNat == 41) || (c.toNat == 59) || (c.toNat == 44) || (c.toNat == 61)
/-- The text begins with an arrow. -/
def isArrow : List UInt8 → Bool
  | c :: d :: _ => (c.toNat == 45) && (d.toNat == 62)
  | _ => false
/-- The length of the sign at the beginning. -/
def signL : List UInt8 → Nat
  | [] => 0
  | c :: r => bif isArrow (c :: r) then 2 else bif isSign c then 1 else 0

/-- The value of digits, at most 2^40 + 1. -/
def valL (v : Nat) : List UInt8 → Nat
  | [] => v
  | c :: r => valL (min (10 * v + (c.toNat - 48)) 1099511627777) r

theorem valL_snoc (v : Nat) (l : List UInt8) (c : UInt8) : valL v (l ++ [c]) = min (10 * valL v l + (c.toNat - 48)) 1099511627777 := by
  induction l generalizing v with
  | nil => rfl
  | cons d r ih => exact ih _

theorem valL_le (v : Nat) (hv : v ≤ 1099511627777) (l : List UInt8) : valL v l ≤ 1099511627777 := by
  induction l generalizing v with
  | nil => exact hv
  | cons d r ih => exact ih _ (by omega)

def unitN (c : UInt8) : Nat := if c.toNat = 115 then 1 else if c.toNat = 109 then 60 else if c.toNat = 104 then 3600 else if c.toNat = 100 then 86400 else 0
def headU : List UInt8 → Nat
  | [] => 0
  | c :: _ => unitN c

/-- The number at the beginning: its length (0: none) and its value. -/
def numberL (l : List UInt8) : Nat × Nat :=
  if 1 < runL isD l ∧ l.head? = some 48 then (0, 0)
  else
    if 0 < headU (l.drop (runL isD l)) then
      (if headE (l.drop (runL isD l + 1)) then (0, 0) else (runL isD l + 1, min (valL 0 (l.take (runL isD l)) * headU (l.drop (runL isD l))) 1099511627777))
    else (if headE (l.drop (runL isD l)) then (0, 0) else (runL isD l, valL 0 (l.take (runL isD l))))

/-- The token at the beginning: its kind, its length (0: none) and its value. -/
def tokenL (l : List UInt8) : Nat × Nat × Nat :=
  match l with
  | [] => (3, 0, 0)
  | c :: _ => if isL c then (1, wordL l, 0) else if isD c then (2, (numberL l).1, (numberL l).2) else (3, signL l, 0)

end LexP
end Go.Proofs.YtemhiiignamkjaaDoor
namespace Go.Proofs.YtemhiiignamkjaaDoor
namespace LexP

theorem signL_le (l : List UInt8) : signL l ≤ l.length := by
  rcases l with _ | ⟨c, _ | ⟨d, r⟩⟩
  · simp [signL]
  · simp only [signL, isArrow]
    cases isSign c <;> simp
  · simp only [signL, List.length_cons]
    cases isArrow (c :: d :: r) <;> cases isSign c <;> simp <;> omega

theorem numberL_le (l : List UInt8) : (numberL l).1 ≤ l.length := by
  have h := runL_le isD l
  unfold numberL
  split
  · simp
  · split
    · rename_i h1
      split
      · simp
      · rcases Nat.lt_or_ge (runL isD l) l.length with h2 | h2
        · exact h2
        · rw [List.drop_eq_nil_of_le h2] at h1; exact absurd h1 (by simp [headU])
    · split
      · simp
      · exact h

theorem numberL_val (l : List UInt8) : (numberL l).2 ≤ 1099511627777 := by
  have h := valL_le 0 (by omega) (l.take (runL isD l))
  unfold numberL
  split
  · simp
  · split
    · split
      · simp
      · exact Nat.min_le_right _ _
    · split
      · simp
      · exact h

theorem tokenL_le (l : List UInt8) : (tokenL l).2.1 ≤ l.length := by
  have h1 := wordL_le l
  have h2 := numberL_le l
  have h3 := signL_le l
  unfold tokenL
  split
  · simp
  · split
    · exact h1
    · split
      · exact h2
      · exact h3

theorem tokenL_val (l : List UInt8) : (tokenL l).2.2 ≤ 1099511627777 := by
  unfold tokenL
  split
  · simp
  · split
    · simp
    · split
      · exact numberL_val (_ :: _)
      · simp

end LexP
end Go.Proofs.YtemhiiignamkjaaDoor
namespace Go.Proofs.YtemhiiignamkjaaDoor
namespace LexP

structure Tok where
  kind : Nat
  text : ByteArray
  n : Nat
  pos : Nat

inductive Res where
  | ok (l : List Tok)
  | err (pos : Nat) (e : Int)

/-- The token that begins at index a. -/
def tokAt (s : ByteArray) (a : Nat) : Tok := ⟨(tokenL (s.data.toList.drop a)).1, s.extract a (a + (tokenL (s.data.toList.drop a)).2.1), (tokenL (s.data.toList.drop a)).2.2, a⟩

/-- The index behind the token that begins at a and what is blank behind it. -/
def next (s : ByteArray) (a : Nat) : Nat := a + (tokenL (s.data.toList.drop a)).2.1 + skipB false (s.data.toList.drop (a + (tokenL (s.data.toList.drop a)).2.1))

def scan (s : ByteArray) (a : Nat) (out : List Tok) : Res :=
  if a < s.size then
    if _h0 : (tokenL (s.data.toList.drop a)).2.1 = 0 then .err a 3
    else if 1099511627776 < (tokenL (s.data.toList.drop a)).2.2 then .err a 2
    else scan s (next s a) (out ++ [tokAt s a])
  else .ok out
  termination_by s.size - a
  decreasing_by unfold next; omega

def tokens (s : ByteArray) : Res := if 4000 < s.size then .err 0 2 else scan s (skipB false s.data.toList) []

theorem scan_end (s : ByteArray) (a : Nat) (out : List Tok) (h : s.size ≤ a) : scan s a out = .ok out := by
  rw [scan, if_neg (by omega)]
theorem scan_syntax (s : ByteArray) (a : Nat) (out : List Tok) (h : a < s.size) (h0 : (tokenL (s.data.toList.drop a)).2.1 = 0) : scan s a out = .err a 3 := by
  rw [scan, if_pos h, dif_pos h0]
theorem scan_limit (s : ByteArray) (a : Nat) (out : List Tok) (h : a < s.size) (h0 : (tokenL (s.data.toList.drop a)).2.1 ≠ 0) (h1 : 1099511627776 < (tokenL (s.data.toList.drop a)).2.2) : scan s a out = .err a 2 := by
  rw [scan, if_pos h, dif_neg h0, if_pos h1]
theorem scan_step (s : ByteArray) (a : Nat) (out : List Tok) (h : a < s.size) (h0 : (tokenL (s.data.toList.drop a)).2.1 ≠ 0) (h1 : ¬ 1099511627776 < (tokenL (s.data.toList.drop a)).2.2) : scan s a out = scan s (next s a) (out ++ [tokAt s a]) := by
  rw [scan, if_pos h, dif_neg h0, if_neg h1]

theorem next_le (s : ByteArray) (a : Nat) (h : a ≤ s.size) : next s a ≤ s.size := by
  have hl : s.data.toList.length = s.size := Array.length_toList
  have h1 := tokenL_le (s.data.toList.drop a)
  have h2 := skipB_le false (s.data.toList.drop (a + (tokenL (s.data.toList.drop a)).2.1))
  rw [List.length_drop] at h1 h2
  unfold next
  omega
end LexP
end Go.Proofs.YtemhiiignamkjaaDoor
