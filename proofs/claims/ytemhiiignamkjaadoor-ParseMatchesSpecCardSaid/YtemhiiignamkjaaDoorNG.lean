/-
  Plain mathematics of layer 11 (lex): tokens before a blank or a newline; a token by itself; texts put together.
  Plain mathematics of layer 11 (lex): the tokens of joined texts, and of two texts with a comment between them.
-/
import Derived.Test.YtemhiiignamkjaaDoorNI
import Derived.Lib.Join
namespace Go.Proofs.YtemhiiignamkjaaDoor
namespace LexP

/-- What follows is nothing, a blank or a newline. -/
def Soft (r : List UInt8) : Prop := ∀ c t, r = c :: t → c.toNat = 32 ∨ c.toNat = 10

theorem soft_nil : Soft [] := fun _ _ h => by cases h
theorem soft_cons {c : UInt8} {t : List UInt8} (h : c.toNat = 32 ∨ c.toNat = 10) : Soft (c :: t) := fun _ _ e => by cases e; exact h

theorem isL_soft {c : UInt8} (h : c.toNat = 32 ∨ c.toNat = 10) : isL c = false := decide_eq_false (by omega)
theorem isD_soft {c : UInt8} (h : c.toNat = 32 ∨ c.toNat = 10) : isD c = false := decide_eq_false (by omega)
theorem isE_soft {c : UInt8} (h : c.toNat = 32 ∨ c.toNat = 10) : isE c = false := by unfold isE; rw [isL_soft h, isD_soft h]; rfl

theorem headE_soft (x r : List UInt8) (h : Soft r) : headE (x ++ r) = headE x := by
  cases x with
  | cons c t => rfl
  | nil =>
    cases r with
    | nil => rfl
    | cons c t => exact isE_soft (h c t rfl)
theorem headU_soft (x r : List UInt8) (h : Soft r) : headU (x ++ r) = headU x := by
  cases x with
  | cons c t => rfl
  | nil =>
    cases r with
    | nil => rfl
    | cons c t =>
      show unitN c = 0
      unfold unitN
      rcases h c t rfl with e | e <;> simp [e]

theorem wordL_soft (r : List UInt8) (h : Soft r) : ∀ x : List UInt8, wordL (x ++ r) = wordL x
  | [] => by
    cases r with
    | nil => rfl
    | cons c t =>
      have h45 : (c.toNat == 45) = false := by rcases h c t rfl with e | e <;> simp [e]
      simp [wordL, isE_soft (h c t rfl), h45]
  | c :: x => by
    have ih := wordL_soft r h x
    simp only [List.cons_append, wordL, headE_soft x r h, ih]

theorem runD_soft (r : List UInt8) (h : Soft r) : ∀ x : List UInt8, runL isD (x ++ r) = runL isD x
  | [] => by
    cases r with
    | nil => rfl
    | cons c t => simp [runL, isD_soft (h c t rfl)]
  | c :: x => by
    have ih := runD_soft r h x
    simp only [List.cons_append, runL, ih]

theorem numberL_soft (r : List UInt8) (h : Soft r) (x : List UInt8) : numberL (x ++ r) = numberL x := by
  have hle := runL_le isD x
  have e1 : (1 < runL isD x ∧ (x ++ r).head? = some 48) ↔ (1 < runL isD x ∧ x.head? = some 48) := by
    cases x with
    | nil => simp [runL]
    | cons c t => simp
  have e2 : headU ((x ++ r).drop (runL isD x)) = headU (x.drop (runL isD x)) := by
    rw [List.drop_append_of_le_length hle, headU_soft _ _ h]
  have e3 : headE ((x ++ r).drop (runL isD x)) = headE (x.drop (runL isD x)) := by
    rw [List.drop_append_of_le_length hle, headE_soft _ _ h]
  have e4 : (x ++ r).take (runL isD x) = x.take (runL isD x) := List.take_append_of_le_length hle
  unfold numberL
  rw [runD_soft r h x]
  by_cases c1 : 1 < runL isD x ∧ x.head? = some 48
  · rw [if_pos (e1.2 c1), if_pos c1]
  · rw [if_neg (fun c => c1 (e1.1 c)), if_neg c1, e2, e3, e4]
    by_cases c2 : 0 < headU (x.drop (runL isD x))
    · have hlt : runL isD x + 1 ≤ x.length := by
        rcases Nat.lt_or_ge (runL isD x) x.length with h1 | h1
        · exact h1
        · rw [List.drop_eq_nil_of_le h1] at c2; exact absurd c2 (by simp [headU])
      have e5 : headE ((x ++ r).drop (runL isD x + 1)) = headE (x.drop (runL isD x + 1)) := by
        rw [List.drop_append_of_le_length hlt, headE_soft _ _ h]
      rw [if_pos c2, if_pos c2, e5]
    · rw [if_neg c2, if_neg c2]

theorem signL_soft (r : List UInt8) (h : Soft r) : ∀ x : List UInt8, x ≠ [] → signL (x ++ r) = signL x
  | [], hx => absurd rfl hx
  | [c], _ => by
    cases r with
    | nil => rfl
    | cons d t =>
      have h62 : (d.toNat == 62) = false := by rcases h d t rfl with e | e <;> simp [e]
      simp [signL, isArrow, h62]
  | c :: d :: t, _ => by simp [signL, isArrow]

theorem tokenL_soft (r : List UInt8) (h : Soft r) (x : List UInt8) (hx : x ≠ []) : tokenL (x ++ r) = tokenL x := by
  have h1 := wordL_soft r h x
  have h2 := numberL_soft r h x
  have h3 := signL_soft r h x hx
  cases x with
  | nil => exact absurd rfl hx
  | cons c t =>
    rw [List.cons_append] at h1 h2 h3 ⊢
    unfold tokenL
    simp only [h1, h2, h3]

theorem wordL_take : ∀ x : List UInt8, wordL (x.take (wordL x)) = wordL x
  | [] => rfl
  | c :: t => by
    have ih := wordL_take t
    simp only [wordL]
    cases hc : (isE c || ((c.toNat == 45) && headE t)) with
    | false => simp [wordL]
    | true =>
      simp only [cond_true, List.take_succ_cons, wordL]
      have hh : (isE c || ((c.toNat == 45) && headE (t.take (wordL t)))) = true := by
        cases he : isE c with
        | true => rfl
        | false =>
          rw [he] at hc
          simp only [Bool.false_or, Bool.and_eq_true] at hc ⊢
          refine ⟨hc.1, ?_⟩
          cases t with
          | nil => exact hc.2
          | cons d u =>
            have hd : isE d = true := hc.2
            simp only [wordL, hd, Bool.true_or, cond_true, List.take_succ_cons]
            exact hd
      rw [hh, cond_true, ih]

theorem runD_take (x : List UInt8) (n : Nat) (h : runL isD x ≤ n) : runL isD (x.take n) = runL isD x := by
  induction x generalizing n with
  | nil => simp [runL]
  | cons c t ih =>
    simp only [runL] at h ⊢
    cases n with
    | zero =>
      cases hc : isD c with
      | false => simp [runL]
      | true => rw [hc] at h; simp at h
    | succ n =>
      simp only [List.take_succ_cons, runL]
      cases hc : isD c with
      | false => rfl
      | true =>
        rw [hc] at h
        simp only [cond_true] at h ⊢
        rw [ih n (by omega)]

theorem numberL_take (x : List UInt8) (h : (numberL x).1 ≠ 0) : numberL (x.take (numberL x).1) = numberL x := by
  have hle := runL_le isD x
  by_cases c1 : 1 < runL isD x ∧ x.head? = some 48
  · exact absurd (by unfold numberL; rw [if_pos c1]) h
  by_cases c2 : 0 < headU (x.drop (runL isD x))
  · by_cases c3 : headE (x.drop (runL isD x + 1)) = true
    · exact absurd (by unfold numberL; rw [if_neg c1, if_pos c2, if_pos c3]) h
    · have e0 : numberL x = (runL isD x + 1, min (valL 0 (x.take (runL isD x)) * headU (x.drop (runL isD x))) 1099511627777) := by
        unfold numberL; rw [if_neg c1, if_pos c2, if_neg c3]
      have hlt : runL isD x < x.length := by
        rcases Nat.lt_or_ge (runL isD x) x.length with h1 | h1
        · exact h1
        · rw [List.drop_eq_nil_of_le h1] at c2; exact absurd c2 (by simp [headU])
      rw [e0]
      have e1 : runL isD (x.take (runL isD x + 1)) = runL isD x := runD_take x _ (by omega)
      have e2 : headU ((x.take (runL isD x + 1)).drop (runL isD x)) = headU (x.drop (runL isD x)) := by
        rw [List.drop_take, show runL isD x + 1 - runL isD x = 1 by omega, List.drop_eq_getElem_cons hlt]; rfl
      have e3 : (x.take (runL isD x + 1)).drop (runL isD x + 1) = [] := List.drop_eq_nil_of_le (by rw [List.length_take]; omega)
      have e4 : (x.take (runL isD x + 1)).take (runL isD x) = x.take (runL isD x) := by rw [List.take_take, Nat.min_eq_left (by omega)]
      have e5 : (x.take (runL isD x + 1)).head? = x.head? := by cases x <;> simp
      unfold numberL
      rw [e1, e5, if_neg c1, e2, if_pos c2, e3, e4]
      rfl
  · by_cases c3 : headE (x.drop (runL isD x)) = true
    · exact absurd (by unfold numberL; rw [if_neg c1, if_neg c2, if_pos c3]) h
    · have e0 : numberL x = (runL isD x, valL 0 (x.take (runL isD x))) := by
        unfold numberL; rw [if_neg c1, if_neg c2, if_neg c3]
      rw [e0] at h ⊢
      simp only at h ⊢
      have e1 : runL isD (x.take (runL isD x)) = runL isD x := runD_take x _ (Nat.le_refl _)
      have e3 : (x.take (runL isD x)).drop (runL isD x) = [] := List.drop_eq_nil_of_le (by rw [List.length_take]; omega)
      have e4 : (x.take (runL isD x)).take (runL isD x) = x.take (runL isD x) := by rw [List.take_take, Nat.min_self]
      have e5 : (x.take (runL isD x)).head? = x.head? := by
        cases x with
        | nil => simp
        | cons c t => rw [List.head?_take, if_neg h]
      unfold numberL
      rw [e1, e5, if_neg c1, e3, e4, if_neg (by simp [headU])]
      rfl

theorem signL_take : ∀ x : List UInt8, signL (x.take (signL x)) = signL x
  | [] => rfl
  | [c] => by simp only [signL, isArrow]; cases hs : isSign c <;> simp [hs]
  | c :: d :: t => by
    simp only [signL]
    cases ha : isArrow (c :: d :: t) with
    | true => simp only [cond_true, List.take_succ_cons, List.take_zero]; rw [show isArrow [c, d] = isArrow (c :: d :: t) from rfl, ha]; rfl
    | false =>
      cases hs : isSign c with
      | true => simp only [cond_true, cond_false, List.take_succ_cons, List.take_zero, isArrow, hs]
      | false => simp

theorem tokenL_take (x : List UInt8) (h : (tokenL x).2.1 ≠ 0) : tokenL (x.take (tokenL x).2.1) = tokenL x := by
  cases x with
  | nil => rfl
  | cons c t =>
    by_cases hl : isL c = true
    · have e : tokenL (c :: t) = (1, wordL (c :: t), 0) := by unfold tokenL; simp only [hl, if_true]
      have hw := wordL_take (c :: t)
      rw [e] at h ⊢
      simp only at h ⊢
      obtain ⟨k, hk⟩ := Nat.exists_eq_succ_of_ne_zero h
      rw [hk, List.take_succ_cons] at hw ⊢
      unfold tokenL
      simp only [hl, if_true, hw]
    · by_cases hd : isD c = true
      · have e : tokenL (c :: t) = (2, (numberL (c :: t)).1, (numberL (c :: t)).2) := by unfold tokenL; simp only [hl, hd, if_true]; rfl
        rw [e] at h ⊢
        simp only at h ⊢
        have hw := numberL_take (c :: t) h
        obtain ⟨k, hk⟩ := Nat.exists_eq_succ_of_ne_zero h
        have e2 : (c :: t).take (numberL (c :: t)).1 = c :: t.take k := by rw [hk, List.take_succ_cons]
        rw [e2] at hw ⊢
        unfold tokenL
        simp only [hl, hd, if_true, hw]
        rfl
      · have e : tokenL (c :: t) = (3, signL (c :: t), 0) := by unfold tokenL; simp only [hl, hd]; rfl
        have hw := signL_take (c :: t)
        rw [e] at h ⊢
        simp only at h ⊢
        obtain ⟨k, hk⟩ := Nat.exists_eq_succ_of_ne_zero h
        rw [hk, List.take_succ_cons] at hw ⊢
        unfold tokenL
        simp only [hl, hd, hw]
        rfl

/-- The first byte of a token is neither blank nor the beginning of a comment. -/
theorem skipB_token (x : List UInt8) (h : (tokenL x).2.1 ≠ 0) : skipB false x = 0 := by
  cases x with
  | nil => rfl
  | cons c t =>
    by_cases hb : isBlank c = true ∨ c.toNat = 35
    · exfalso
      apply h
      have hc : c.toNat = 32 ∨ c.toNat = 9 ∨ c.toNat = 10 ∨ c.toNat = 35 := by
        rcases hb with hb | hb
        · unfold isBlank at hb; simp at hb; omega
        · omega
      have hl : isL c = false := decide_eq_false (by omega)
      have hd : isD c = false := decide_eq_false (by omega)
      have hs : isSign c = false := by
        unfold isSign
        simp only [Bool.or_eq_false_iff, beq_eq_false_iff_ne]
        omega
      have ha : isArrow (c :: t) = false := by
        cases t with
        | nil => rfl
        | cons d u =>
          have : (c.toNat == 45) = false := beq_eq_false_iff_ne.2 (by omega)
          simp [isArrow, this]
      unfold tokenL
      simp only [hl, hd, signL, ha, hs]
      rfl
    · exact skipB_stop c t (by simpa using fun h => hb (.inl h)) (fun h => hb (.inr h))
end LexP
end Go.Proofs.YtemhiiignamkjaaDoor
namespace Go.Proofs.YtemhiiignamkjaaDoor
namespace LexP

/-- A token that is found again by itself. -/
structure Good (t : Tok) : Prop where
  tok : tokenL t.text.data.toList = (t.kind, t.text.size, t.n)
  pos : t.text.size ≠ 0
  val : ¬ 1099511627776 < t.n

theorem good_of_chain {s : ByteArray} {a : Nat} {l : List Tok} (h : Chain s a l) : ∀ t ∈ l, Good t := by
  induction h with
  | nil a h => intro t ht; cases ht
  | cons a p r hp hlt hn hv hr ih =>
    intro t ht
    rcases List.mem_cons.1 ht with rfl | ht
    · have hle := tokenL_le (s.data.toList.drop p)
      have hll := hle
      rw [List.length_drop, blen] at hle
      have e : (tokAt s p).text.data.toList = (s.data.toList.drop p).take (tokenL (s.data.toList.drop p)).2.1 := by
        show (s.extract p _).data.toList = _
        rw [ByteArray.data_extract, Array.toList_extract]
        show (s.data.toList.drop p).take (p + (tokenL (s.data.toList.drop p)).2.1 - p) = _
        rw [Nat.add_sub_cancel_left]
      have hsz : (tokAt s p).text.size = (tokenL (s.data.toList.drop p)).2.1 := by
        rw [← blen, e, List.length_take]; omega
      refine ⟨?_, ?_, hv⟩
      · rw [e, tokenL_take _ hn, hsz]; rfl
      · rw [hsz]; exact hn
    · exact ih t ht

theorem list_ne {t : Tok} (h : Good t) : t.text.data.toList ≠ [] := by
  intro e
  have := blen t.text
  rw [e] at this
  exact h.pos this.symm

/-- The step that finds a good token again. -/
theorem step_good (J : ByteArray) (p : Nat) (t : Tok) (r : List UInt8) (hg : Good t) (hr : Soft r) (hd : J.data.toList.drop p = t.text.data.toList ++ r) :
    p < J.size ∧ tokenL (J.data.toList.drop p) = (t.kind, t.text.size, t.n) ∧ skipB false (J.data.toList.drop p) = 0 ∧ tokAt J p = ⟨t.kind, t.text, t.n, p⟩ ∧ J.data.toList.drop (p + t.text.size) = r := by
  have e : tokenL (J.data.toList.drop p) = (t.kind, t.text.size, t.n) := by rw [hd, tokenL_soft r hr _ (list_ne hg), hg.tok]
  have hl : (J.data.toList.drop p).length = t.text.size + r.length := by rw [hd, List.length_append, blen]
  rw [List.length_drop, blen] at hl
  have hpos := hg.pos
  refine ⟨by omega, e, ?_, ?_, ?_⟩
  · exact skipB_token _ (by rw [e]; exact hg.pos)
  · unfold tokAt
    rw [e]
    have : J.extract p (p + t.text.size) = t.text := by
      apply ByteArray.ext
      apply Array.ext'
      rw [ByteArray.data_extract, Array.toList_extract]
      show (J.data.toList.drop p).take (p + t.text.size - p) = _
      rw [hd, Nat.add_sub_cancel_left, List.take_append_of_le_length (by rw [blen]; omega), ← blen, List.take_length]
    rw [this]
  · rw [← List.drop_drop, hd, ← blen t.text, List.drop_left]

/-- What is joined behind a text. -/
def tailT (l : List Tok) : List UInt8 := Lib.joinTail [32] (l.map (·.text.data.toList))
theorem tailT_cons (t : Tok) (l : List Tok) : tailT (t :: l) = 32 :: (t.text.data.toList ++ tailT l) := by simp [tailT, Lib.joinTail]
theorem tailT_soft (l : List Tok) : Soft (tailT l) := by
  cases l with
  | nil => exact soft_nil
  | cons t l => rw [tailT_cons]; exact soft_cons (.inl rfl)

/-- The same tokens, but for where they lie. -/
def moved : List Tok → List Tok → Prop
  | [], [] => True
  | a :: r, b :: s => (b.kind = a.kind ∧ b.text = a.text ∧ b.n = a.n) ∧ moved r s
  | _, _ => False

theorem chain_tail (J : ByteArray) : ∀ (l : List Tok) (a : Nat), (∀ t ∈ l, Good t) → a ≤ J.size → J.data.toList.drop a = tailT l → ∃ m, Chain J a m ∧ moved l m
  | [], a, _, ha, hd => by
    refine ⟨[], .nil a ?_, trivial⟩
    rw [hd]
    have := congrArg List.length hd
    rw [List.length_drop, blen] at this
    simp [tailT, Lib.joinTail, skipB] at this ⊢
    omega
  | t :: l, a, hg, ha, hd => by
    have hgt := hg t (by simp)
    rw [tailT_cons] at hd
    have hd1 : J.data.toList.drop (a + 1) = t.text.data.toList ++ tailT l := by
      rw [← List.drop_drop, hd]; rfl
    obtain ⟨hlt, htk, hsk, hat, hnx⟩ := step_good J (a + 1) t _ hgt (tailT_soft l) hd1
    have hle := tokenL_le (J.data.toList.drop (a + 1))
    rw [List.length_drop, blen, htk] at hle
    simp only at hle
    obtain ⟨m, hc, hm⟩ := chain_tail J l (a + 1 + t.text.size) (fun u hu => hg u (by simp [hu])) (by omega) hnx
    refine ⟨tokAt J (a + 1) :: m, .cons a (a + 1) m ?_ hlt (by rw [htk]; exact hgt.pos) (by rw [htk]; exact hgt.val) (by rw [htk]; exact hc), ?_⟩
    · rw [hd, skipB_blank 32 _ rfl, ← hd1, hsk]
    · rw [hat]; exact ⟨⟨rfl, rfl, rfl⟩, hm⟩

/-- The tokens of the text that Join makes of tokens. -/
theorem tokens_join (l : List Tok) (hg : ∀ t ∈ l, Good t) (J : ByteArray) (hJ : J.data.toList = Lib.join (l.map (·.text.data.toList)) [32]) (hs : J.size ≤ 4000) : ∃ m, tokens J = .ok m ∧ moved l m := by
  cases l with
  | nil =>
    refine ⟨[], chain_tokens J [] hs (.nil 0 ?_), trivial⟩
    have e : J.data.toList = [] := by rw [hJ]; simp [Lib.join, List.intercalate]
    rw [List.drop_zero, e, ← blen, e]; rfl
  | cons t l =>
    have hgt := hg t (by simp)
    have hd : J.data.toList.drop 0 = t.text.data.toList ++ tailT l := by rw [List.drop_zero, hJ, List.map_cons, Lib.join_cons]; rfl
    obtain ⟨hlt, htk, hsk, hat, hnx⟩ := step_good J 0 t _ hgt (tailT_soft l) hd
    have hle := tokenL_le (J.data.toList.drop 0)
    rw [List.length_drop, blen, htk] at hle
    simp only at hle
    obtain ⟨m, hc, hm⟩ := chain_tail J l (0 + t.text.size) (fun u hu => hg u (by simp [hu])) (by omega) hnx
    refine ⟨tokAt J 0 :: m, chain_tokens J _ hs (.cons 0 0 m (by rw [hsk]) hlt (by rw [htk]; exact hgt.pos) (by rw [htk]; exact hgt.val) (by rw [htk]; exact hc)), ?_⟩
    rw [hat]; exact ⟨⟨rfl, rfl, rfl⟩, hm⟩

/-! Two texts with a comment between them. -/
theorem Chain.move {s : ByteArray} {a b : Nat} {l : List Tok} (h : Chain s a l) (e : b + skipB false (s.data.toList.drop b) = a + skipB false (s.data.toList.drop a)) : Chain s b l := by
  cases h with
  | nil _ h => exact .nil b (e.trans h)
  | cons _ p r hp hlt hn hv hr => exact .cons b p r (e.trans hp) hlt hn hv hr

theorem skipB_through : ∀ (b : Bool) (x q : List UInt8), skipB b x = x.length → skipB b (x ++ 10 :: q) = x.length + 1 + skipB false q
  | false, [], q, _ => by
    rw [List.nil_append, skipB_blank 10 q rfl]; simp
  | true, [], q, _ => by
    show skipB true (10 :: q) = _
    simp [skipB]; omega
  | false, c :: x, q, h => by
    simp only [skipB, List.length_cons, List.cons_append] at h ⊢
    cases hb : isBlank c with
    | true =>
      rw [hb] at h
      simp only [cond_true] at h ⊢
      rw [skipB_through false x q (by omega)]; omega
    | false =>
      rw [hb] at h
      simp only [cond_false] at h ⊢
      cases h35 : (c.toNat == 35) with
      | true =>
        rw [h35] at h
        simp only [cond_true] at h ⊢
        rw [skipB_through true x q (by omega)]; omega
      | false => rw [h35] at h; simp at h
  | true, c :: x, q, h => by
    simp only [skipB, List.length_cons, List.cons_append] at h ⊢
    cases h10 : (c.toNat == 10) with
    | true =>
      rw [h10] at h
      simp only [cond_true] at h ⊢
      rw [skipB_through false x q (by omega)]; omega
    | false =>
      rw [h10] at h
      simp only [cond_false] at h ⊢
      rw [skipB_through true x q (by omega)]; omega

theorem skipB_within : ∀ (b : Bool) (x q : List UInt8), skipB b x < x.length → skipB b (x ++ q) = skipB b x
  | _, [], q, h => by simp at h
  | false, c :: x, q, h => by
    simp only [skipB, List.length_cons, List.cons_append] at h ⊢
    cases hb : isBlank c with
    | true =>
      rw [hb] at h
      simp only [cond_true] at h ⊢
      rw [skipB_within false x q (by omega)]
    | false =>
      rw [hb] at h
      simp only [cond_false] at h ⊢
      cases h35 : (c.toNat == 35) with
      | true =>
        rw [h35] at h
        simp only [cond_true] at h ⊢
        rw [skipB_within true x q (by omega)]
      | false => rfl
  | true, c :: x, q, h => by
    simp only [skipB, List.length_cons, List.cons_append] at h ⊢
    cases h10 : (c.toNat == 10) with
    | true =>
      rw [h10] at h
      simp only [cond_true] at h ⊢
      rw [skipB_within false x q (by omega)]
    | false =>
      rw [h10] at h
      simp only [cond_false] at h ⊢
      rw [skipB_within true x q (by omega)]

theorem skipB_comment : ∀ (x q : List UInt8), (∀ c ∈ x, c.toNat ≠ 10) → skipB true (x ++ 10 :: q) = x.length + 1 + skipB false q
  | [], q, _ => by
    show skipB true (10 :: q) = _
    simp [skipB]; omega
  | c :: x, q, h => by
    have h10 : (c.toNat == 10) = false := beq_eq_false_iff_ne.2 (h c (by simp))
    have ih := skipB_comment x q (fun d hd => h d (by simp [hd]))
    simp only [List.cons_append, skipB, h10, cond_false, ih, List.length_cons]; omega

/-- A token of the first text is a token of the whole. -/
theorem chain_front (A H : ByteArray) (q : List UInt8) (hH : H.data.toList = A.data.toList ++ 10 :: q) (m : List Tok) (hm : Chain H A.size m) : ∀ {a : Nat} {l : List Tok}, a ≤ A.size → Chain A a l → Chain H a (l ++ m) := by
  intro a l ha h
  have hdrop : ∀ p, p ≤ A.size → H.data.toList.drop p = A.data.toList.drop p ++ 10 :: q := fun p hp => by
    rw [hH, List.drop_append_of_le_length (by rw [blen]; exact hp)]
  have hAsz : H.data.toList.drop A.size = 10 :: q := by
    rw [hdrop _ (Nat.le_refl _), List.drop_eq_nil_of_le (by rw [blen]; omega)]; rfl
  have hHs : A.size ≤ H.size := by
    rw [← blen, ← blen, hH, List.length_append]; omega
  have hsoft : Soft (10 :: q) := soft_cons (.inr rfl)
  induction h with
  | nil a h =>
    rw [List.nil_append]
    refine hm.move ?_
    have hlen : (A.data.toList.drop a).length = A.size - a := by rw [List.length_drop, blen]
    rw [hdrop a ha, skipB_through false _ q (by rw [hlen]; omega), hAsz, skipB_blank 10 q rfl, hlen]
    omega
  | cons a p r hp hlt hn hv hr ih =>
    have hle := tokenL_le (A.data.toList.drop p)
    rw [List.length_drop, blen] at hle
    have hsk := skipB_le false (A.data.toList.drop a)
    rw [List.length_drop, blen] at hsk
    have hap : a ≤ A.size := by omega
    have hne : A.data.toList.drop p ≠ [] := by
      intro e
      have := congrArg List.length e
      rw [List.length_drop, blen] at this
      simp at this; omega
    have htk : tokenL (H.data.toList.drop p) = tokenL (A.data.toList.drop p) := by rw [hdrop p (by omega), tokenL_soft _ hsoft _ hne]
    have hat : tokAt H p = tokAt A p := by
      unfold tokAt
      rw [htk]
      have : H.extract p (p + (tokenL (A.data.toList.drop p)).2.1) = A.extract p (p + (tokenL (A.data.toList.drop p)).2.1) := by
        apply ByteArray.ext
        apply Array.ext'
        rw [ByteArray.data_extract, Array.toList_extract, ByteArray.data_extract, Array.toList_extract]
        show (H.data.toList.drop p).take _ = (A.data.toList.drop p).take _
        rw [hdrop p (by omega), List.take_append_of_le_length (by rw [List.length_drop, blen]; omega)]
      rw [this]
    have hp2 : a + skipB false (H.data.toList.drop a) = p := by
      rw [hdrop a (by omega), skipB_within false _ _ (by rw [List.length_drop, blen]; omega)]
      exact hp
    rw [List.cons_append, ← hat]
    exact .cons a p (r ++ m) hp2 (by omega) (by rw [htk]; exact hn) (by rw [htk]; exact hv) (by rw [htk]; exact ih (by omega))

def shift (h : Nat) (t : Tok) : Tok := { t with pos := h + t.pos }

/-- A token of the second text is a token of the whole, further on. -/
theorem chain_back (B H : ByteArray) (pre : List UInt8) (hH : H.data.toList = pre ++ B.data.toList) {a : Nat} {l : List Tok} (h : Chain B a l) : Chain H (pre.length + a) (l.map (shift pre.length)) := by
  have hdrop : ∀ p, H.data.toList.drop (pre.length + p) = B.data.toList.drop p := fun p => by
    rw [hH, ← List.drop_drop, List.drop_left]
  have hHs : H.size = pre.length + B.size := by rw [← blen, ← blen, hH, List.length_append]
  induction h with
  | nil a h => exact .nil _ (by rw [hdrop]; omega)
  | cons a p r hp hlt hn hv hr ih =>
    have hat : tokAt H (pre.length + p) = shift pre.length (tokAt B p) := by
      unfold tokAt shift
      rw [hdrop]
      have : H.extract (pre.length + p) (pre.length + p + (tokenL (B.data.toList.drop p)).2.1) = B.extract p (p + (tokenL (B.data.toList.drop p)).2.1) := by
        apply ByteArray.ext
        apply Array.ext'
        rw [ByteArray.data_extract, Array.toList_extract, ByteArray.data_extract, Array.toList_extract]
        show (H.data.toList.drop (pre.length + p)).take _ = (B.data.toList.drop p).take _
        rw [hdrop, Nat.add_sub_cancel_left, Nat.add_sub_cancel_left]
      rw [this]
    rw [List.map_cons, ← hat]
    exact .cons _ _ _ (by rw [hdrop]; omega) (by omega) (by rw [hdrop]; exact hn) (by rw [hdrop]; exact hv) (by rw [hdrop, Nat.add_assoc]; exact ih)

theorem tokens_gap (A B C H : ByteArray) (l m : List Tok) (hA : tokens A = .ok l) (hB : tokens B = .ok m) (hC : ∀ c ∈ C.data.toList, c.toNat ≠ 10)
    (hH : H.data.toList = (A.data.toList ++ [10, 35] ++ C.data.toList ++ [10]) ++ B.data.toList) (hs : H.size ≤ 4000) :
    tokens H = .ok (l ++ m.map (shift (A.size + 2 + C.size + 1))) := by
  have hc1 := (tokens_chain A l hA).2
  have hc2 := (tokens_chain B m hB).2
  have hpl : (A.data.toList ++ [10, 35] ++ C.data.toList ++ [10]).length = A.size + 2 + C.size + 1 := by
    simp only [List.length_append, blen, List.length_cons, List.length_nil]
  have hb := chain_back B H _ hH hc2
  rw [hpl] at hb
  have hH2 : H.data.toList = A.data.toList ++ 10 :: (35 :: (C.data.toList ++ 10 :: B.data.toList)) := by rw [hH]; simp
  refine chain_tokens H _ hs (chain_front A H _ hH2 _ (hb.move ?_) (Nat.zero_le _) hc1)
  have e1 : H.data.toList.drop A.size = 10 :: 35 :: (C.data.toList ++ 10 :: B.data.toList) := by
    rw [hH2, List.drop_append_of_le_length (by rw [blen]; omega), List.drop_eq_nil_of_le (by rw [blen]; omega)]; rfl
  have e2 : H.data.toList.drop (A.size + 2 + C.size + 1 + 0) = B.data.toList := by
    rw [Nat.add_zero, hH, ← hpl, List.drop_left]
  have e3 : skipB false (35 :: (C.data.toList ++ 10 :: B.data.toList)) = 1 + (C.size + 1 + skipB false B.data.toList) := by
    have : isBlank 35 = false := rfl
    simp only [skipB, this, cond_false]
    have h35 : ((35 : UInt8).toNat == 35) = true := rfl
    rw [h35, cond_true, skipB_comment _ _ hC, blen]; omega
  rw [e1, e2, skipB_blank 10 _ rfl, e3]
  omega
end LexP
end Go.Proofs.YtemhiiignamkjaaDoor
