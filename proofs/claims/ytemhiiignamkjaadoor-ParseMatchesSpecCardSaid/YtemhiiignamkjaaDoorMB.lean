/-
  Layer 12 (parse): reading does not look at where tokens lie (plain).
  Layer 12 (parse): the tokens of a text that is laid token by token (plain).
  Layer 12 (parse): the tokens of a printed policy (plain).
  Layer 12 (parse): a printed policy is read as it was (plain).
  Layer 12 (parse): the tokens of a printed policy are read as the policy (plain).
  Layer 12 (parse): parsing a printed policy returns it (plain).
-/
import Derived.Test.YtemhiiignamkjaaDoorParP3
import Derived.Test.YtemhiiignamkjaaDoorNG
import Derived.Test.YtemhiiignamkjaaDoorNE
namespace Go.Proofs.YtemhiiignamkjaaDoor
namespace ParP
open LexP

/-- A token without its place. -/
def er (t : Tok) : Tok := ⟨t.kind, t.text, t.n, 0⟩
def Rd.er {α β : Type} (g : α → β) : Rd α → Rd β
  | .ok r x => .ok (r.map ParP.er) (g x)
  | .bad r => .bad (r.map ParP.er)
theorem take_er {p : Tok → Bool} (hp : ∀ t, p (er t) = p t) (l : List Tok) : take p (l.map er) = (take p l).er er := by
  cases l with
  | nil => rfl
  | cons t r =>
    rw [List.map_cons, take, take, hp]
    cases p t <;> rfl
theorem bind_er {α β γ δ : Type} {a : Rd α} {a' : Rd γ} {g : α → γ} {k : β → δ} {f : List Tok → α → Rd β} {f' : List Tok → γ → Rd δ} (ha : a' = a.er g) (hf : ∀ r x, f' (r.map er) (g x) = (f r x).er k) : a'.bind f' = (a.bind f).er k := by
  subst ha
  cases a with
  | ok r x => exact hf r x
  | bad r => rfl
theorem expect_er (s : ByteArray) (l : List Tok) : expect s (l.map er) = (expect s l).er er := take_er (fun _ => rfl) l
theorem word_er (l : List Tok) : word (l.map er) = (word l).er er := take_er (fun _ => rfl) l
theorem num_er (l : List Tok) : num (l.map er) = (num l).er er := take_er (fun _ => rfl) l
theorem typLoop_er : ∀ (N : Nat) (l : List Tok) (fl lf : Nat) (lb : Bool), l.length ≤ N → typLoop (l.map er) fl lf lb = (typLoop l fl lf lb).er id := by
  intro N
  induction N with
  | zero =>
    intro l fl lf lb hl
    have : l = [] := List.eq_nil_of_length_eq_zero (Nat.le_zero.1 hl)
    subst this
    rw [List.map_nil, typLoop.eq_def]
    rfl
  | succ N ih =>
    intro l fl lf lb hl
    cases l with
    | nil => rw [List.map_nil, typLoop.eq_def]; rfl
    | cons t r =>
      rw [List.map_cons, typLoop.eq_def, typLoop.eq_def]
      dsimp only
      have e1 : ∀ s, isText s (er t) = isText s t := fun _ => rfl
      have e2 : (er t).text = t.text := rfl
      rw [e1, e1, e2]
      by_cases h1 : isText wClose t = true
      · rw [if_pos h1, if_pos h1]; rfl
      · rw [if_neg h1, if_neg h1]
        by_cases h2 : (isText wLife t && !lb) = true
        · rw [if_pos h2, if_pos h2]
          cases r with
          | nil => rfl
          | cons u r2 =>
            rw [List.map_cons]
            dsimp only
            have e3 : isNumT (er u) = isNumT u := rfl
            rw [e3]
            by_cases h3 : isNumT u = true
            · rw [if_pos h3, if_pos h3]
              cases r2 with
              | nil => rfl
              | cons v r3 =>
                rw [List.map_cons]
                dsimp only
                have e4 : isText wSemi (er v) = isText wSemi v := rfl
                rw [e4]
                by_cases h4 : isText wSemi v = true
                · rw [if_pos h4, if_pos h4]
                  exact ih r3 _ _ _ (by simp at hl; omega)
                · rw [if_neg h4, if_neg h4]; rfl
            · rw [if_neg h3, if_neg h3]; rfl
        · rw [if_neg h2, if_neg h2]
          by_cases h3 : (decide (findW flagWords t.text < 7) && !fl.testBit (findW flagWords t.text)) = true
          · rw [if_pos h3, if_pos h3]
            cases r with
            | nil => rfl
            | cons v r2 =>
              rw [List.map_cons]
              dsimp only
              have e4 : isText wSemi (er v) = isText wSemi v := rfl
              rw [e4]
              by_cases h4 : isText wSemi v = true
              · rw [if_pos h4, if_pos h4]
                exact ih r2 _ _ _ (by simp at hl; omega)
              · rw [if_neg h4, if_neg h4]; rfl
          · rw [if_neg h3, if_neg h3]; rfl
def erT (x : PTyp) : PTyp := ⟨er x.name, x.flags, x.life⟩
def erR (x : PRul) : PRul := ⟨x.kind, er x.a, er x.b⟩
def erS (st : St) : St := ⟨st.typs.map erT, st.ruls.map erR, st.quos⟩
theorem rdTyp_er (l : List Tok) : rdTyp (l.map er) = (rdTyp l).er erT :=
  bind_er (word_er l) fun _ _ => bind_er (expect_er _ _) fun r2 _ => bind_er (typLoop_er _ r2 0 0 false (Nat.le_refl _)) fun _ _ => rfl
theorem rdRul_er (k : Nat) (l : List Tok) : rdRul k (l.map er) = (rdRul k l).er erR :=
  bind_er (word_er l) fun _ _ => bind_er (expect_er _ _) fun _ _ => bind_er (word_er _) fun _ _ => bind_er (expect_er _ _) fun _ _ => rfl
theorem peek_er (l : List Tok) : peek (l.map er) = peek l := by cases l <;> rfl
theorem opt_er (s : ByteArray) (z : Nat) (l : List Tok) : opt s z (l.map er) = (opt s z l).er id := by
  unfold opt
  rw [peek_er]
  split
  · exact bind_er (expect_er _ _) fun _ _ => bind_er (num_er _) fun _ _ => rfl
  · rfl
theorem rdQuo_er (l : List Tok) : rdQuo (l.map er) = (rdQuo l).er id :=
  bind_er (take_er (fun _ => rfl) l) fun _ _ => bind_er (num_er _) fun _ _ => bind_er (opt_er _ _ _) fun _ _ => bind_er (expect_er _ _) fun _ _ => bind_er (num_er _) fun _ _ =>
    bind_er (opt_er _ _ _) fun _ _ => bind_er (expect_er _ _) fun _ _ => rfl
theorem items_er : ∀ (f : Nat) (l : List Tok) (st : St), items f (l.map er) (erS st) = (items f l st).er erS
  | 0, [], _ => rfl
  | 0, _ :: _, _ => rfl
  | f + 1, [], _ => rfl
  | f + 1, t :: r, st => by
    rw [List.map_cons, items, items]
    have e1 : ∀ s, isText s (er t) = isText s t := fun _ => rfl
    have e2 : (er t).text = t.text := rfl
    rw [e1, e1, e1, e2]
    by_cases h1 : isText wClose t = true
    · rw [if_pos h1, if_pos h1]; rfl
    · rw [if_neg h1, if_neg h1]
      by_cases h2 : isText wType t = true
      · rw [if_pos h2, if_pos h2]
        refine bind_er (rdTyp_er r) fun r1 x => ?_
        rw [← items_er f]
        simp [erS]
      · rw [if_neg h2, if_neg h2]
        by_cases h3 : isText wQuorum t = true
        · rw [if_pos h3, if_pos h3]
          refine bind_er (rdQuo_er r) fun r1 x => ?_
          rw [← items_er f]
          rfl
        · rw [if_neg h3, if_neg h3]
          by_cases h4 : findW ruleWords t.text < 5
          · rw [if_pos h4, if_pos h4]
            refine bind_er (rdRul_er _ r) fun r1 x => ?_
            rw [← items_er f]
            simp [erS]
          · rw [if_neg h4, if_neg h4]; rfl
theorem policy_er (l : List Tok) : policy (l.map er) = (policy l).er fun x => (er x.1, erS x.2) := by
  refine bind_er (expect_er _ l) fun r _ => bind_er (word_er r) fun r2 nm => bind_er (expect_er _ r2) fun r3 _ => bind_er (g := erS) ?_ fun r4 st => ?_
  · rw [List.length_map]
    exact items_er _ r3 ⟨[], [], []⟩
  · cases r4 <;> rfl
theorem typIdx_er (ts : List PTyp) (s : ByteArray) : typIdx (ts.map erT) s = typIdx ts s := by
  unfold typIdx
  rw [List.findIdx_map]
  rfl
theorem twice_er : ∀ (l b : List PTyp), twice (b.map erT) (l.map erT) = (twice b l).map er
  | [], _ => rfl
  | t :: r, b => by
    have ih := twice_er r (b ++ [t])
    rw [List.map_append] at ih
    rw [List.map_cons, twice, twice, List.map_append, ← ih, typIdx_er, List.length_map]
    have : (erT t).name.text = t.name.text := rfl
    rw [this]
    congr 1
    split <;> rfl
theorem missing_er (ts : List PTyp) (r : PRul) : missing (ts.map erT) (erR r) = (missing ts r).map er := by
  unfold missing
  rw [typIdx_er, typIdx_er, List.length_map, List.map_append]
  have e1 : (erR r).a.text = r.a.text := rfl
  have e2 : (erR r).b.text = r.b.text := rfl
  rw [e1, e2]
  congr 1 <;> split <;> rfl
theorem wrongs_er (st : St) : wrongs (erS st) = (wrongs st).map er := by
  unfold wrongs
  rw [List.map_append]
  have h := twice_er st.typs []
  rw [List.map_nil] at h
  rw [← h]
  congr 1
  show (st.ruls.map erR).flatMap (missing (st.typs.map erT)) = _
  rw [List.flatMap_map, List.map_flatMap]
  congr 1
  funext r
  exact missing_er _ r
theorem least_none (l : List Tok) : least l = none ↔ l = [] := by
  cases l with
  | nil => simp [least]
  | cons t r => simp [least]
/-- The policy and the error, of tokens. -/
def pe (l : List Tok) : Pol × Int :=
  match policy l with
  | .bad _ => (noPol, 3)
  | .ok _ (nm, st) => if (wrongs st).isEmpty then (⟨nm.text, st.typs.map PTyp.typ, st.ruls.map (PRul.rul st.typs), st.quos.map PQuo.quo⟩, 0) else (noPol, 4)
theorem parse_pe {s : ByteArray} {l : List Tok} (h : tokens s = .ok l) : (parse s).pol = (pe l).1 ∧ (parse s).err = (pe l).2 := by
  unfold parse pe
  rw [h]
  dsimp only
  cases hp : policy l with
  | bad r => cases r <;> exact ⟨rfl, rfl⟩
  | ok r x =>
    obtain ⟨nm, st⟩ := x
    dsimp only
    cases hw : wrongs st with
    | nil => exact ⟨rfl, rfl⟩
    | cons a b => exact ⟨rfl, rfl⟩
theorem pe_er (l : List Tok) : pe (l.map er) = pe l := by
  unfold pe
  rw [policy_er]
  cases policy l with
  | bad r => rfl
  | ok r x =>
    obtain ⟨nm, st⟩ := x
    show (if (wrongs (erS st)).isEmpty = true then _ else _) = _
    rw [wrongs_er, List.isEmpty_map]
    have e1 : (erS st).typs.map PTyp.typ = st.typs.map PTyp.typ := by
      show (st.typs.map erT).map PTyp.typ = _
      rw [List.map_map]; rfl
    have e2 : (erS st).ruls.map (PRul.rul (erS st).typs) = st.ruls.map (PRul.rul st.typs) := by
      show (st.ruls.map erR).map (PRul.rul (st.typs.map erT)) = _
      rw [List.map_map]
      congr 1
      funext r
      show PRul.rul (st.typs.map erT) (erR r) = _
      unfold PRul.rul
      rw [typIdx_er, typIdx_er]
      rfl
    rw [e1, e2]
    rfl
theorem pe_same {l m : List Tok} (h : m.map er = l.map er) : pe m = pe l := by rw [← pe_er m, h, pe_er]
end ParP
end Go.Proofs.YtemhiiignamkjaaDoor
namespace Go.Proofs.YtemhiiignamkjaaDoor
namespace LexP

/-- What follows is nothing, a blank, a newline, a comment or a semicolon. -/
def Soft3 (r : List UInt8) : Prop := ∀ c t, r = c :: t → c.toNat = 9 ∨ c.toNat = 10 ∨ c.toNat = 32 ∨ c.toNat = 35 ∨ c.toNat = 59

theorem soft_nil3 : Soft3 [] := fun _ _ h => by cases h
theorem soft_cons3 {c : UInt8} {t : List UInt8} (h : c.toNat = 9 ∨ c.toNat = 10 ∨ c.toNat = 32 ∨ c.toNat = 35 ∨ c.toNat = 59) : Soft3 (c :: t) := fun _ _ e => by cases e; exact h

theorem isL_soft3 {c : UInt8} (h : c.toNat = 9 ∨ c.toNat = 10 ∨ c.toNat = 32 ∨ c.toNat = 35 ∨ c.toNat = 59) : isL c = false := decide_eq_false (by omega)
theorem isD_soft3 {c : UInt8} (h : c.toNat = 9 ∨ c.toNat = 10 ∨ c.toNat = 32 ∨ c.toNat = 35 ∨ c.toNat = 59) : isD c = false := decide_eq_false (by omega)
theorem isE_soft3 {c : UInt8} (h : c.toNat = 9 ∨ c.toNat = 10 ∨ c.toNat = 32 ∨ c.toNat = 35 ∨ c.toNat = 59) : isE c = false := by unfold isE; rw [isL_soft3 h, isD_soft3 h]; rfl

theorem headE_soft3 (x r : List UInt8) (h : Soft3 r) : headE (x ++ r) = headE x := by
  cases x with
  | cons c t => rfl
  | nil =>
    cases r with
    | nil => rfl
    | cons c t => exact isE_soft3 (h c t rfl)
theorem headU_soft3 (x r : List UInt8) (h : Soft3 r) : headU (x ++ r) = headU x := by
  cases x with
  | cons c t => rfl
  | nil =>
    cases r with
    | nil => rfl
    | cons c t =>
      show unitN c = 0
      unfold unitN
      rcases h c t rfl with e | e | e | e | e <;> simp [e]

theorem wordL_soft3 (r : List UInt8) (h : Soft3 r) : ∀ x : List UInt8, wordL (x ++ r) = wordL x
  | [] => by
    cases r with
    | nil => rfl
    | cons c t =>
      have h45 : (c.toNat == 45) = false := by rcases h c t rfl with e | e | e | e | e <;> simp [e]
      simp [wordL, isE_soft3 (h c t rfl), h45]
  | c :: x => by
    have ih := wordL_soft3 r h x
    simp only [List.cons_append, wordL, headE_soft3 x r h, ih]

theorem runD_soft3 (r : List UInt8) (h : Soft3 r) : ∀ x : List UInt8, runL isD (x ++ r) = runL isD x
  | [] => by
    cases r with
    | nil => rfl
    | cons c t => simp [runL, isD_soft3 (h c t rfl)]
  | c :: x => by
    have ih := runD_soft3 r h x
    simp only [List.cons_append, runL, ih]

theorem numberL_soft3 (r : List UInt8) (h : Soft3 r) (x : List UInt8) : numberL (x ++ r) = numberL x := by
  have hle := runL_le isD x
  have e1 : (1 < runL isD x ∧ (x ++ r).head? = some 48) ↔ (1 < runL isD x ∧ x.head? = some 48) := by
    cases x with
    | nil => simp [runL]
    | cons c t => simp
  have e2 : headU ((x ++ r).drop (runL isD x)) = headU (x.drop (runL isD x)) := by
    rw [List.drop_append_of_le_length hle, headU_soft3 _ _ h]
  have e3 : headE ((x ++ r).drop (runL isD x)) = headE (x.drop (runL isD x)) := by
    rw [List.drop_append_of_le_length hle, headE_soft3 _ _ h]
  have e4 : (x ++ r).take (runL isD x) = x.take (runL isD x) := List.take_append_of_le_length hle
  unfold numberL
  rw [runD_soft3 r h x]
  by_cases c1 : 1 < runL isD x ∧ x.head? = some 48
  · rw [if_pos (e1.2 c1), if_pos c1]
  · rw [if_neg (fun c => c1 (e1.1 c)), if_neg c1, e2, e3, e4]
    by_cases c2 : 0 < headU (x.drop (runL isD x))
    · have hlt : runL isD x + 1 ≤ x.length := by
        rcases Nat.lt_or_ge (runL isD x) x.length with h1 | h1
        · exact h1
        · rw [List.drop_eq_nil_of_le h1] at c2; exact absurd c2 (by simp [headU])
      have e5 : headE ((x ++ r).drop (runL isD x + 1)) = headE (x.drop (runL isD x + 1)) := by
        rw [List.drop_append_of_le_length hlt, headE_soft3 _ _ h]
      rw [if_pos c2, if_pos c2, e5]
    · rw [if_neg c2, if_neg c2]

theorem signL_soft3 (r : List UInt8) (h : Soft3 r) : ∀ x : List UInt8, x ≠ [] → signL (x ++ r) = signL x
  | [], hx => absurd rfl hx
  | [c], _ => by
    cases r with
    | nil => rfl
    | cons d t =>
      have h62 : (d.toNat == 62) = false := by rcases h d t rfl with e | e | e | e | e <;> simp [e]
      simp [signL, isArrow, h62]
  | c :: d :: t, _ => by simp [signL, isArrow]

theorem tokenL_soft3 (r : List UInt8) (h : Soft3 r) (x : List UInt8) (hx : x ≠ []) : tokenL (x ++ r) = tokenL x := by
  have h1 := wordL_soft3 r h x
  have h2 := numberL_soft3 r h x
  have h3 := signL_soft3 r h x hx
  cases x with
  | nil => exact absurd rfl hx
  | cons c t =>
    rw [List.cons_append] at h1 h2 h3 ⊢
    unfold tokenL
    simp only [h1, h2, h3]


theorem step_good3 (J : ByteArray) (p : Nat) (t : Tok) (r : List UInt8) (hg : Good t) (hr : Soft3 r) (hd : J.data.toList.drop p = t.text.data.toList ++ r) :
    p < J.size ∧ tokenL (J.data.toList.drop p) = (t.kind, t.text.size, t.n) ∧ skipB false (J.data.toList.drop p) = 0 ∧ tokAt J p = ⟨t.kind, t.text, t.n, p⟩ ∧ J.data.toList.drop (p + t.text.size) = r := by
  have e : tokenL (J.data.toList.drop p) = (t.kind, t.text.size, t.n) := by rw [hd, tokenL_soft3 r hr _ (list_ne hg), hg.tok]
  have hl : (J.data.toList.drop p).length = t.text.size + r.length := by rw [hd, List.length_append, blen]
  rw [List.length_drop, blen] at hl
  have hpos := hg.pos
  refine ⟨by omega, e, ?_, ?_, ?_⟩
  · exact skipB_token _ (by rw [e]; exact hg.pos)
  · unfold tokAt
    rw [e]
    have : J.extract p (p + t.text.size) = t.text := by
      apply ByteArray.ext
      apply Array.ext'
      rw [ByteArray.data_extract, Array.toList_extract]
      show (J.data.toList.drop p).take (p + t.text.size - p) = _
      rw [hd, Nat.add_sub_cancel_left, List.take_append_of_le_length (by rw [blen]; omega), ← blen, List.take_length]
    rw [this]
  · rw [← List.drop_drop, hd, ← blen t.text, List.drop_left]
/-- Bytes that are skipped whole, whatever follows. -/
def Gap (g : List UInt8) : Prop := ∀ x, skipB false (g ++ x) = g.length + skipB false x
theorem gap_nil : Gap [] := fun x => by simp
theorem gap_blank {g : List UInt8} (h : ∀ c ∈ g, isBlank c = true) : Gap g := by
  induction g with
  | nil => exact gap_nil
  | cons c g ih =>
    intro x
    rw [List.cons_append, skipB_blank c _ (h c (by simp)), ih (fun d hd => h d (by simp [hd])) x, List.length_cons]
    omega
/-- A text that is laid token by token. -/
inductive Lay : List UInt8 → List Tok → Prop
  | nil (g : List UInt8) (hg : Gap g) : Lay g []
  | cons (g : List UInt8) (t : Tok) (r : List UInt8) (l : List Tok) (hg : Gap g) (ht : Good t) (hs : Soft3 r) (h : Lay r l) : Lay (g ++ (t.text.data.toList ++ r)) (t :: l)
theorem lay_chain (J : ByteArray) {x : List UInt8} {l : List Tok} (h : Lay x l) : ∀ a, a ≤ J.size → J.data.toList.drop a = x → ∃ m, Chain J a m ∧ m.map ParP.er = l.map ParP.er := by
  induction h with
  | nil g hg =>
    intro a ha hd
    refine ⟨[], .nil a ?_, rfl⟩
    have h := hg []
    rw [List.append_nil] at h
    have hl := congrArg List.length hd
    rw [List.length_drop, blen] at hl
    have h0 : skipB false ([] : List UInt8) = 0 := rfl
    rw [hd, h, h0]
    omega
  | cons g t r l hg ht hs _ ih =>
    intro a ha hd
    have hl := congrArg List.length hd
    rw [List.length_drop, blen, List.length_append, List.length_append, blen] at hl
    have hd1 : J.data.toList.drop (a + g.length) = t.text.data.toList ++ r := by
      rw [← List.drop_drop, hd, List.drop_left]
    obtain ⟨hlt, htk, hsk, hat, hnx⟩ := step_good3 J (a + g.length) t r ht hs hd1
    obtain ⟨m, hc, hm⟩ := ih (a + g.length + t.text.size) (by omega) hnx
    refine ⟨tokAt J (a + g.length) :: m, .cons a (a + g.length) m ?_ hlt (by rw [htk]; exact ht.pos) (by rw [htk]; exact ht.val) (by rw [htk]; exact hc), ?_⟩
    · rw [hd, hg, ← hd1, hsk]
      rfl
    · rw [hat, List.map_cons, List.map_cons, hm]
      rfl
theorem lay_tokens (J : ByteArray) {l : List Tok} (h : Lay J.data.toList l) (hs : J.size ≤ 4000) : ∃ m, tokens J = .ok m ∧ m.map ParP.er = l.map ParP.er := by
  obtain ⟨m, hc, hm⟩ := lay_chain J h 0 (Nat.zero_le _) rfl
  exact ⟨m, chain_tokens J m hs hc, hm⟩
end LexP
end Go.Proofs.YtemhiiignamkjaaDoor
namespace Go.Proofs.YtemhiiignamkjaaDoor
open LexP ParP

/-! Tokens that are found again. -/
def tW (s : ByteArray) : Tok := ⟨1, s, 0, 0⟩
def tS (s : ByteArray) : Tok := ⟨3, s, 0, 0⟩
def tN (n : Nat) : Tok := ⟨2, ⟨(Lib.decDigits n).toArray⟩, n, 0⟩
theorem good_word {s : ByteArray} (h : isWordB s = true) : LexP.Good (tW s) := by
  unfold isWordB at h
  cases ht : tokens s with
  | err a e => rw [ht] at h; cases h
  | ok l =>
    rw [ht] at h
    match l, ht, h with
    | [], _, h => cases h
    | [t], ht, h =>
      obtain ⟨h1, h2⟩ := Bool.and_eq_true_iff.1 h
      have hk := of_decide_eq_true h1
      have hs := text_eq_iff.1 h2
      have hg := good_of_chain (tokens_chain s _ ht).2 t (by simp)
      obtain ⟨h3, h4, h5⟩ := hg
      rw [hk, hs] at h3
      rw [hs] at h4
      refine ⟨?_, h4, by show ¬ 1099511627776 < 0; omega⟩
      show tokenL s.data.toList = (1, s.size, 0)
      have h6 : (tokenL s.data.toList).2.2 = 0 := by
        have h7 : (tokenL s.data.toList).1 = 1 := by rw [h3]
        unfold tokenL at h7 ⊢
        split
        · rfl
        · next e =>
          rw [e] at h7
          dsimp only at h7 ⊢
          split
          · rfl
          · next hl =>
            rw [if_neg hl] at h7
            split
            · next hd => rw [if_pos hd] at h7; cases h7
            · rfl
      rw [h3] at h6
      rw [h3, show t.n = 0 from h6]
    | _ :: _ :: _, _, h => cases h
theorem dig_toNat (k : Nat) (h : k < 10) : (UInt8.ofNat (48 + k)).toNat = 48 + k := by
  rw [UInt8.toNat_ofNat']
  omega
theorem dec_val (u : Nat) : valL 0 (Lib.decDigits u) = min u 1099511627777 := by
  induction u using Nat.strongRecOn with
  | _ u ih =>
    by_cases h : u < 10
    · rw [Lib.decDigits, dif_pos h]
      show min (10 * 0 + ((UInt8.ofNat (48 + u)).toNat - 48)) 1099511627777 = _
      rw [dig_toNat u h]
      omega
    · rw [Lib.decDigits, dif_neg h, valL_snoc, ih (u / 10) (by omega), dig_toNat _ (Nat.mod_lt _ (by decide))]
      omega
theorem dec_isD (u : Nat) : ∀ c ∈ Lib.decDigits u, isD c = true := by
  induction u using Nat.strongRecOn with
  | _ u ih =>
    intro c hc
    have hd : ∀ k, k < 10 → isD (UInt8.ofNat (48 + k)) = true := fun k hk => by
      unfold isD
      rw [dig_toNat k hk]
      exact decide_eq_true (by omega)
    by_cases h : u < 10
    · rw [Lib.decDigits, dif_pos h] at hc
      rw [List.mem_singleton.1 hc]
      exact hd u h
    · rw [Lib.decDigits, dif_neg h] at hc
      rcases List.mem_append.1 hc with hc | hc
      · exact ih (u / 10) (by omega) c hc
      · rw [List.mem_singleton.1 hc]
        exact hd _ (Nat.mod_lt _ (by decide))
theorem dec_ne (u : Nat) : Lib.decDigits u ≠ [] := by
  rw [Lib.decDigits]
  split <;> simp
theorem dec_head (u : Nat) (h1 : 1 ≤ u) : (Lib.decDigits u).head? ≠ some 48 := by
  induction u using Nat.strongRecOn with
  | _ u ih =>
    by_cases h : u < 10
    · rw [Lib.decDigits, dif_pos h]
      intro e
      have e2 : UInt8.ofNat (48 + u) = 48 := Option.some.inj e
      have e3 := congrArg UInt8.toNat e2
      rw [dig_toNat u h] at e3
      have : (48 : UInt8).toNat = 48 := rfl
      omega
    · rw [Lib.decDigits, dif_neg h]
      have hn := dec_ne (u / 10)
      have := ih (u / 10) (by omega) (by omega)
      cases hd : Lib.decDigits (u / 10) with
      | nil => exact absurd hd hn
      | cons c r => rw [hd] at this; exact this
theorem runL_full {p : UInt8 → Bool} {l : List UInt8} (h : ∀ c ∈ l, p c = true) : runL p l = l.length :=
  runL_all p l fun _ _ _ hj => h _ (List.mem_of_getElem? hj)
theorem good_num {n : Nat} (h : n ≤ 1099511627776) : LexP.Good (tN n) := by
  have hd := dec_isD n
  have hr := runL_full hd
  have hv := dec_val n
  have hne := dec_ne n
  have hnum : numberL (Lib.decDigits n) = ((Lib.decDigits n).length, n) := by
    unfold numberL
    rw [hr, List.drop_length, List.take_length, hv]
    have h1 : ¬ (1 < (Lib.decDigits n).length ∧ (Lib.decDigits n).head? = some 48) := by
      rintro ⟨a, b⟩
      by_cases h0 : 1 ≤ n
      · exact dec_head n h0 b
      · have : n = 0 := by omega
        subst this
        rw [Lib.decDigits, dif_pos (by decide)] at a
        exact absurd a (by simp)
    rw [if_neg h1, if_neg (by simp [headU]), if_neg (by simp [headE])]
    congr 1
    omega
  refine ⟨?_, ?_, by show ¬ 1099511627776 < n; omega⟩
  · show tokenL (Lib.decDigits n) = (2, (Lib.decDigits n).toArray.size, n)
    rw [List.size_toArray]
    cases hl : Lib.decDigits n with
    | nil => exact absurd hl hne
    | cons c r =>
      have hc : isD c = true := hd c (by rw [hl]; simp)
      have hc2 : isL c = false := by
        unfold isD at hc
        have := of_decide_eq_true hc
        exact decide_eq_false (by omega)
      show (if isL c = true then _ else if isD c = true then (2, (numberL (c :: r)).1, (numberL (c :: r)).2) else _) = _
      rw [if_neg (by rw [hc2]; decide), if_pos hc, ← hl, hnum]
  · show (Lib.decDigits n).toArray.size ≠ 0
    rw [List.size_toArray]
    intro e
    exact hne (List.eq_nil_of_length_eq_zero e)
theorem good_policy : LexP.Good (tW wPolicy) := ⟨by kernel_rfl, by decide, by decide⟩
theorem good_type : LexP.Good (tW wType) := ⟨by kernel_rfl, by decide, by decide⟩
theorem good_quorum : LexP.Good (tW wQuorum) := ⟨by kernel_rfl, by decide, by decide⟩
theorem good_life : LexP.Good (tW wLife) := ⟨by kernel_rfl, by decide, by decide⟩
theorem good_after : LexP.Good (tW wAfter) := ⟨by kernel_rfl, by decide, by decide⟩
theorem good_within : LexP.Good (tW wWithin) := ⟨by kernel_rfl, by decide, by decide⟩
theorem good_uses : LexP.Good (tW wUses) := ⟨by kernel_rfl, by decide, by decide⟩
theorem good_open : LexP.Good (tS wOpen) := ⟨by kernel_rfl, by decide, by decide⟩
theorem good_close : LexP.Good (tS wClose) := ⟨by kernel_rfl, by decide, by decide⟩
theorem good_semi : LexP.Good (tS wSemi) := ⟨by kernel_rfl, by decide, by decide⟩
theorem good_arrow : LexP.Good (tS wArrow) := ⟨by kernel_rfl, by decide, by decide⟩
theorem good_of_list (l : List ByteArray) (h : (l.all fun s => decide (tokenL s.data.toList = (1, s.size, 0)) && decide (s.size ≠ 0)) = true) : ∀ s ∈ l, LexP.Good (tW s) := fun s hs => by
  have := List.all_eq_true.1 h s hs
  obtain ⟨h1, h2⟩ := Bool.and_eq_true_iff.1 this
  exact ⟨of_decide_eq_true h1, of_decide_eq_true h2, by show ¬ 1099511627776 < 0; omega⟩
theorem good_flags : ∀ s ∈ flagWords, LexP.Good (tW s) := good_of_list _ (by kernel_rfl)
theorem good_rules : ∀ s ∈ ruleWords, LexP.Good (tW s) := good_of_list _ (by kernel_rfl)
theorem good_commands : ∀ s ∈ commandWords, LexP.Good (tW s) := good_of_list _ (by kernel_rfl)

/-! Pieces of a text. -/
def soft3 (c : UInt8) : Prop := c.toNat = 9 ∨ c.toNat = 10 ∨ c.toNat = 32 ∨ c.toNat = 35 ∨ c.toNat = 59
/-- A piece behind which anything may come. -/
def Pg (x : List UInt8) (ts : List Tok) : Prop := ∀ r l, Lay r l → Lay (x ++ r) (ts ++ l)
/-- A piece that wants a soft sign behind it. -/
def Pc (x : List UInt8) (ts : List Tok) : Prop := ∀ r l, Lay r l → Soft3 r → Lay (x ++ r) (ts ++ l)
def Hd (x : List UInt8) : Prop := ∃ c t, x = c :: t ∧ soft3 c
def Sf (x : List UInt8) : Prop := x = [] ∨ Hd x
theorem gap_app {g h : List UInt8} (hg : Gap g) (hh : Gap h) : Gap (g ++ h) := fun x => by rw [List.append_assoc, hg, hh, List.length_append]; omega
theorem lay_gap {g r : List UInt8} {l : List Tok} (hg : Gap g) (h : Lay r l) : Lay (g ++ r) l := by
  cases h with
  | nil _ h => exact .nil _ (gap_app hg h)
  | cons h t r2 l2 hh ht hs hl =>
    rw [← List.append_assoc]
    exact .cons _ t r2 l2 (gap_app hg hh) ht hs hl
section
variable {x y : List UInt8} {ts us : List Tok}
theorem pg_gap {g : List UInt8} (h : ∀ c ∈ g, isBlank c = true) : Pg g [] := fun _ _ hl => lay_gap (gap_blank h) hl
theorem pc_tok {t : Tok} (h : LexP.Good t) : Pc t.text.data.toList [t] := fun r l hl hs => .cons [] t r l gap_nil h hs hl
theorem pg_pg (h : Pg x ts) (h' : Pg y us) : Pg (x ++ y) (ts ++ us) := fun r l hl => by rw [List.append_assoc, List.append_assoc]; exact h _ _ (h' r l hl)
theorem pg_pc (h : Pg x ts) (h' : Pc y us) : Pc (x ++ y) (ts ++ us) := fun r l hl hs => by rw [List.append_assoc, List.append_assoc]; exact h _ _ (h' r l hl hs)
theorem Hd.soft (h : Hd x) (r : List UInt8) : Soft3 (x ++ r) := by
  obtain ⟨c, t, rfl, hc⟩ := h
  exact soft_cons3 hc
theorem Sf.soft (h : Sf x) {r : List UInt8} (hr : Soft3 r) : Soft3 (x ++ r) := by
  rcases h with rfl | h
  · exact hr
  · exact h.soft r
theorem pc_pg (h : Pc x ts) (h' : Pg y us) (hy : Hd y) : Pg (x ++ y) (ts ++ us) := fun r l hl => by rw [List.append_assoc, List.append_assoc]; exact h _ _ (h' r l hl) (hy.soft r)
theorem pc_pc (h : Pc x ts) (h' : Pc y us) (hy : Sf y) : Pc (x ++ y) (ts ++ us) := fun r l hl hs => by rw [List.append_assoc, List.append_assoc]; exact h _ _ (h' r l hl hs) (hy.soft hs)
theorem Pg.pc (h : Pg x ts) : Pc x ts := fun r l hl _ => h r l hl
theorem pg_flat {α : Type} {f : α → List UInt8} {g : α → List Tok} : ∀ (l : List α), (∀ a ∈ l, Pg (f a) (g a)) → Pg (l.flatMap f) (l.flatMap g)
  | [], _ => fun _ _ hl => hl
  | a :: l, h => by
    rw [List.flatMap_cons, List.flatMap_cons]
    exact pg_pg (h a (by simp)) (pg_flat l fun b hb => h b (by simp [hb]))
theorem pg_lay (h : Pg x ts) : Lay x ts := by
  have := h [] [] (.nil [] gap_nil)
  rwa [List.append_nil, List.append_nil] at this
end
end Go.Proofs.YtemhiiignamkjaaDoor
namespace Go.Proofs.YtemhiiignamkjaaDoor
open LexP ParP

/-! The tokens of a printed policy. -/
def flagsToks (z : Int) : Nat → List Tok
  | 0 => []
  | k + 1 => flagsToks z k ++ (if z.toNat.testBit k = true then [tW (flagWords.getD k ⟨#[]⟩), tS wSemi] else [])
def lifeToks (z : Int) : List Tok := if 0 < z then [tW wLife, tN z.toNat, tS wSemi] else []
def typToks (t : Typ) : List Tok := [tW wType, tW t.name, tS wOpen] ++ flagsToks t.flags 7 ++ lifeToks t.life ++ [tS wClose]
def rulToks (ts : List Typ) (r : Rul) : List Tok := [tW (ruleWords.getD (r.kind.toNat - 1) ⟨#[]⟩), tW (nameOf ts r.a), tS wArrow, tW (nameOf ts r.b), tS wSemi]
def delayToks (z : Int) : List Tok := if 0 < z then [tW wAfter, tN z.toNat] else []
def usesToks (z : Int) : List Tok := if z = 1 then [] else [tW wUses, tN z.toNat]
def quoToks (q : Quo) : List Tok := [tW wQuorum, tW (wordN q.cmd), tN q.count.toNat] ++ delayToks q.delay ++ [tW wWithin, tN q.valid.toNat] ++ usesToks q.uses ++ [tS wSemi]
def polToks (p : Pol) : List Tok := [tW wPolicy, tW p.name, tS wOpen] ++ p.typs.flatMap typToks ++ p.ruls.flatMap (rulToks p.typs) ++ p.quos.flatMap quoToks ++ [tS wClose]

theorem itoa_dec {z : Int} (h : 0 ≤ z) : Lib.itoa z = Lib.decDigits z.toNat := by
  unfold Lib.itoa
  rw [if_neg (by omega)]
theorem Pg.is {x y : List UInt8} {ts us : List Tok} (h : Pg x ts) (hx : y = x) (ht : us = ts) : Pg y us := hx ▸ ht ▸ h
theorem Pc.is {x y : List UInt8} {ts us : List Tok} (h : Pc x ts) (hx : y = x) (ht : us = ts) : Pc y us := hx ▸ ht ▸ h
/-- A token and a blank or newline behind it. -/
theorem pg_tok {t : Tok} (h : LexP.Good t) (c : UInt8) (hb : isBlank c = true) (hc : soft3 c) : Pg (t.text.data.toList ++ [c]) [t] :=
  pc_pg (us := []) (pc_tok h) (pg_gap fun d hd => by rw [List.mem_singleton.1 hd]; exact hb) ⟨c, [], rfl, hc⟩
theorem pg_tok2 {t : Tok} (h : LexP.Good t) (c : UInt8) (hb : isBlank c = true) (hc : soft3 c) : Pg (t.text.data.toList ++ ([59] ++ [c])) [t, tS wSemi] :=
  pc_pg (us := [tS wSemi]) (pc_tok h) (pg_tok good_semi c hb hc) ⟨59, [c], rfl, .inr (.inr (.inr (.inr rfl)))⟩
theorem s32 : soft3 32 := .inr (.inr (.inl rfl))
theorem s10 : soft3 10 := .inr (.inl rfl)
theorem pg_tab : Pg [9] [] := pg_gap fun c hc => by rw [List.mem_singleton.1 hc]; rfl
theorem pg_flags (z : Int) : ∀ k, k ≤ 7 → Pg (flagsTxt z k) (flagsToks z k)
  | 0, _ => fun _ _ hl => hl
  | k + 1, hk => by
    refine pg_pg (pg_flags z k (by omega)) ?_
    split
    · have hm : flagWords.getD k ⟨#[]⟩ ∈ flagWords := by
        rw [List.getD_eq_getElem?_getD, List.getElem?_eq_getElem (show k < flagWords.length from by show k < 7; omega)]
        exact List.getElem_mem _
      exact (pg_tok2 (good_flags _ hm) 32 rfl s32).is rfl rfl
    · exact fun _ _ hl => hl
theorem pg_life {z : Int} (h : z ≤ 1099511627776) : Pg (lifeTxt z) (lifeToks z) := by
  unfold lifeTxt lifeToks
  by_cases hz : 0 < z
  · rw [if_pos hz, if_pos hz, itoa_dec (by omega)]
    exact (pg_pg (pg_tok good_life 32 rfl s32) (pg_tok2 (good_num (n := z.toNat) (by omega)) 32 rfl s32)).is (by simp [tW, tN, wLife]) rfl
  · rw [if_neg hz, if_neg hz]
    exact fun _ _ hl => hl
theorem pg_typ {t : Typ} (hn : isWordB t.name = true) (hl : t.life ≤ 1099511627776) : Pg (typTxt t) (typToks t) := by
  unfold typTxt typToks
  refine pg_pg (pg_pg (pg_pg (ts := [tW wType, tW t.name, tS wOpen]) ?_ (pg_flags _ 7 (Nat.le_refl _))) (pg_life hl)) (pg_tok good_close 10 rfl s10)
  exact (pg_pg pg_tab (pg_pg (pg_tok good_type 32 rfl s32) (pg_pg (pg_tok (good_word hn) 32 rfl s32) (pg_tok good_open 32 rfl s32)))).is (by simp [typHead, strL, tW, tS, wType, wOpen]) rfl
theorem getD_mem {l : List ByteArray} {k : Nat} (h : k < l.length) : l.getD k ⟨#[]⟩ ∈ l := by
  rw [List.getD_eq_getElem?_getD, List.getElem?_eq_getElem h]
  exact List.getElem_mem h
theorem nameOf_mem {ts : List Typ} {z : Int} (h0 : 0 ≤ z) (h1 : z < ts.length) : nameOf ts z ∈ ts.map Typ.name := by
  unfold nameOf
  exact getD_mem (by rw [List.length_map]; omega)
theorem pg_rul {ts : List Typ} {r : Rul} (hts : ∀ t ∈ ts, isWordB t.name = true) (h : 1 ≤ r.kind ∧ r.kind ≤ 5 ∧ 0 ≤ r.a ∧ r.a < ts.length ∧ 0 ≤ r.b ∧ r.b < ts.length) : Pg (rulTxt ts r) (rulToks ts r) := by
  obtain ⟨h1, h2, h3, h4, h5, h6⟩ := h
  have hw : ∀ n ∈ ts.map Typ.name, isWordB n = true := fun n hn => by
    obtain ⟨t, ht, rfl⟩ := List.mem_map.1 hn
    exact hts t ht
  have ga := good_word (hw _ (nameOf_mem h3 h4))
  have gb := good_word (hw _ (nameOf_mem h5 h6))
  have gr := good_rules _ (getD_mem (l := ruleWords) (k := r.kind.toNat - 1) (by show _ < 5; omega))
  exact (pg_pg pg_tab (pg_pg (pg_tok gr 32 rfl s32) (pg_pg (pg_tok ga 32 rfl s32) (pg_pg (pg_tok good_arrow 32 rfl s32) (pg_tok2 gb 10 rfl s10))))).is (by simp [rulTxt, strL, tW, tS, wArrow]) rfl
theorem pc_opt {c : Tok} (hc : LexP.Good c) {n : Nat} (hn : n ≤ 1099511627776) : Pc ([32] ++ (c.text.data.toList ++ [32] ++ Lib.decDigits n)) [c, tN n] :=
  pg_pc (ts := []) (pg_gap fun d hd => by rw [List.mem_singleton.1 hd]; rfl) (pg_pc (pg_tok hc 32 rfl s32) (pc_tok (good_num hn)))
theorem wordN_mem {z : Int} (h1 : 1 ≤ z) (h2 : z ≤ 27) : wordN z ∈ commandWords := by
  unfold wordN
  rw [if_pos ⟨h1, h2⟩]
  exact getD_mem (by show _ < 27; omega)
theorem pg_quo {q : Quo} (h : 1 ≤ q.cmd ∧ q.cmd ≤ 27 ∧ (0 ≤ q.count ∧ q.count ≤ 1099511627776) ∧ (0 ≤ q.delay ∧ q.delay ≤ 1099511627776) ∧ (0 ≤ q.valid ∧ q.valid ≤ 1099511627776) ∧ 0 ≤ q.uses ∧ q.uses ≤ 1099511627776) :
    Pg (quoTxt q) (quoToks q) := by
  obtain ⟨h1, h2, ⟨h3, h4⟩, ⟨h5, h6⟩, ⟨h7, h8⟩, h9, h10⟩ := h
  have hd : Hd (([32, 119, 105, 116, 104, 105, 110, 32] : List UInt8) ++ Lib.itoa q.valid) := ⟨32, _, rfl, s32⟩
  have hh : Pc (quoHead q) [tW wQuorum, tW (wordN q.cmd), tN q.count.toNat] := by
    unfold quoHead
    rw [itoa_dec h3]
    exact (pg_pc pg_tab (pg_pc (pg_tok good_quorum 32 rfl s32) (pg_pc (pg_tok (good_commands _ (wordN_mem h1 h2)) 32 rfl s32) (pc_tok (good_num (n := q.count.toNat) (by omega)))))).is (by simp [strL, tW, tN, wQuorum]) rfl
  have hD : Pc (delayTxt q.delay) (delayToks q.delay) ∧ Sf (delayTxt q.delay) := by
    unfold delayTxt delayToks
    by_cases hz : 0 < q.delay
    · rw [if_pos hz, if_pos hz, itoa_dec (by omega)]
      exact ⟨(pc_opt good_after (n := q.delay.toNat) (by omega)).is (by simp [tW, wAfter]) rfl, .inr ⟨32, _, rfl, s32⟩⟩
    · rw [if_neg hz, if_neg hz]
      exact ⟨fun _ _ hl _ => hl, .inl rfl⟩
  have hV : Pc ([32, 119, 105, 116, 104, 105, 110, 32] ++ Lib.itoa q.valid) [tW wWithin, tN q.valid.toNat] := by
    rw [itoa_dec h7]
    exact (pc_opt good_within (n := q.valid.toNat) (by omega)).is (by simp [tW, wWithin]) rfl
  have hU : Pc (usesTxt q.uses) (usesToks q.uses) ∧ Sf (usesTxt q.uses) := by
    unfold usesTxt usesToks
    by_cases hz : q.uses = 1
    · rw [if_pos hz, if_pos hz]
      exact ⟨fun _ _ hl _ => hl, .inl rfl⟩
    · rw [if_neg hz, if_neg hz, itoa_dec h9]
      exact ⟨(pc_opt good_uses (n := q.uses.toNat) (by omega)).is (by simp [tW, wUses]) rfl, .inr ⟨32, _, rfl, s32⟩⟩
  have h := pc_pg (pc_pc (pc_pc (pc_pc hh hD.1 hD.2) hV (.inr hd)) hU.1 hU.2) (pg_tok good_semi 10 rfl s10) ⟨59, [10], rfl, .inr (.inr (.inr (.inr rfl)))⟩
  exact h.is (by unfold quoTxt; simp [tS, wSemi]) rfl
theorem typsOk_word : ∀ (l : List Typ) (seen : List ByteArray), typsOk seen l = true → (∀ t ∈ l, isWordB t.name = true ∧ t.name ∉ seen) ∧ (l.map Typ.name).Nodup
  | [], _, _ => ⟨fun t ht => (by cases ht), List.nodup_nil⟩
  | a :: l, seen, h => by
    unfold typsOk at h
    obtain ⟨h1, h2⟩ := Bool.and_eq_true_iff.1 h
    unfold typOk at h1
    simp only [Bool.and_eq_true, Bool.not_eq_true'] at h1
    obtain ⟨⟨⟨k1, k2⟩, _⟩, _⟩ := h1
    have hm : a.name ∉ seen := fun hm => by
      have : memB a.name seen = true := by
        unfold memB
        exact List.any_eq_true.2 ⟨_, hm, decide_eq_true rfl⟩
      rw [this] at k2
      cases k2
    obtain ⟨i1, i2⟩ := typsOk_word l _ h2
    refine ⟨fun t ht => ?_, ?_⟩
    · rcases List.mem_cons.1 ht with rfl | ht
      · exact ⟨k1, hm⟩
      · exact ⟨(i1 t ht).1, fun hx => (i1 t ht).2 (by simp [hx])⟩
    · rw [List.map_cons, List.nodup_cons]
      refine ⟨fun hx => ?_, i2⟩
      obtain ⟨t, ht, e⟩ := List.mem_map.1 hx
      exact (i1 t ht).2 (by rw [e]; simp)
theorem pg_pol {p : Pol} (ho : PolOk p) (h : printableB p = true) : Pg (printL p) (polToks p) := by
  have hp := prOk p ho h
  unfold printableB at h
  simp only [Bool.and_eq_true] at h
  obtain ⟨⟨⟨h1, h2⟩, _⟩, _⟩ := h
  have hw := (typsOk_word _ _ h2).1
  unfold printL polToks
  refine pg_pg (pg_pg (pg_pg (pg_pg (ts := [tW wPolicy, tW p.name, tS wOpen]) ?_ (pg_flat _ fun t ht => pg_typ (hw t ht).1 (hp.typs t ht).2.2.2.2)) (pg_flat _ fun r hr => pg_rul (fun t ht => (hw t ht).1) (hp.ruls r hr))) (pg_flat _ fun q hq => pg_quo (hp.quos q hq))) (pg_tok good_close 10 rfl s10)
  exact (pg_pg (pg_tok good_policy 32 rfl s32) (pg_pg (pg_tok (good_word h1) 32 rfl s32) (pg_tok good_open 10 rfl s10))).is (by simp [polHead, strL, tW, tS, wPolicy, wOpen]) rfl
end Go.Proofs.YtemhiiignamkjaaDoor
namespace Go.Proofs.YtemhiiignamkjaaDoor
open LexP ParP

def pT (t : Typ) : PTyp := ⟨tW t.name, t.flags.toNat, t.life.toNat⟩
def pR (ts : List Typ) (r : Rul) : PRul := ⟨r.kind.toNat, tW (nameOf ts r.a), tW (nameOf ts r.b)⟩
def pQ (q : Quo) : PQuo := ⟨q.cmd.toNat, q.count.toNat, q.delay.toNat, q.valid.toNat, q.uses.toNat⟩
theorem ok_bind {α β : Type} (r : List Tok) (x : α) (f : List Tok → α → Rd β) : (Rd.ok r x).bind f = f r x := rfl
theorem is_close : isText wClose (tS wClose) = true := by kernel_rfl
theorem is_semi : isText wSemi (tS wSemi) = true := by kernel_rfl
theorem is_open : isText wOpen (tS wOpen) = true := by kernel_rfl
theorem is_arrow : isText wArrow (tS wArrow) = true := by kernel_rfl
theorem is_self (s : ByteArray) : isText s (tW s) = true := text_eq_iff.2 rfl
theorem bit_step {z k : Nat} (hz : z < 128) (hk : k < 7) : (z % 2 ^ k).testBit k = false ∧ z % 2 ^ (k + 1) = z % 2 ^ k + (if z.testBit k = true then 2 ^ k else 0) := by
  have h : ((List.range 128).all fun a => (List.range 7).all fun j => !((a % 2 ^ j).testBit j) && decide (a % 2 ^ (j + 1) = a % 2 ^ j + (if a.testBit j = true then 2 ^ j else 0))) = true := by kernel_rfl
  have h2 := List.all_eq_true.1 (List.all_eq_true.1 h z (List.mem_range.2 hz)) k (List.mem_range.2 hk)
  obtain ⟨h3, h4⟩ := Bool.and_eq_true_iff.1 h2
  exact ⟨by rwa [Bool.not_eq_true'] at h3, of_decide_eq_true h4⟩
theorem flag_facts {k : Nat} (hk : k < 7) : isText wClose (tW (flagWords.getD k ⟨#[]⟩)) = false ∧ isText wLife (tW (flagWords.getD k ⟨#[]⟩)) = false ∧ findW flagWords (flagWords.getD k ⟨#[]⟩) = k := by
  have h : ((List.range 7).all fun j => !isText wClose (tW (flagWords.getD j ⟨#[]⟩)) && !isText wLife (tW (flagWords.getD j ⟨#[]⟩)) && decide (findW flagWords (flagWords.getD j ⟨#[]⟩) = j)) = true := by kernel_rfl
  have h2 := List.all_eq_true.1 h k (List.mem_range.2 hk)
  simp only [Bool.and_eq_true, Bool.not_eq_true'] at h2
  exact ⟨h2.1.1, h2.1.2, of_decide_eq_true h2.2⟩
theorem loop_flags {z : Int} (hz : z.toNat < 128) : ∀ (k : Nat) (rest : List Tok), k ≤ 7 → typLoop (flagsToks z k ++ rest) 0 0 false = typLoop rest (z.toNat % 2 ^ k) 0 false
  | 0, rest, _ => by
    rw [Nat.pow_zero, Nat.mod_one]
    rfl
  | k + 1, rest, hk => by
    obtain ⟨b1, b2⟩ := bit_step hz (show k < 7 by omega)
    rw [flagsToks, List.append_assoc, loop_flags hz k _ (by omega), b2]
    by_cases hb : z.toNat.testBit k = true
    · obtain ⟨f1, f2, f3⟩ := flag_facts (show k < 7 by omega)
      rw [if_pos hb, if_pos hb]
      show typLoop (tW (flagWords.getD k ⟨#[]⟩) :: tS wSemi :: rest) _ _ _ = _
      rw [typLoop.eq_def]
      dsimp only
      rw [f1, f2]
      have e : (tW (flagWords.getD k ⟨#[]⟩)).text = flagWords.getD k ⟨#[]⟩ := rfl
      rw [e, f3, b1, if_neg (by decide), if_neg (by decide), if_pos (by rw [decide_eq_true (show k < 7 by omega)]; rfl), is_semi, if_pos rfl]
    · rw [if_neg hb, if_neg hb]
      rfl
theorem loop_life {z : Int} (h0 : 0 ≤ z) (fl : Nat) (rest : List Tok) : typLoop (lifeToks z ++ (tS wClose :: rest)) fl 0 false = .ok rest (fl, z.toNat) := by
  have hc : ∀ (f l : Nat) (b : Bool), typLoop (tS wClose :: rest) f l b = .ok rest (f, l) := fun f l b => by
    rw [typLoop.eq_def]
    dsimp only
    rw [is_close, if_pos rfl]
  unfold lifeToks
  by_cases hz : 0 < z
  · rw [if_pos hz]
    show typLoop (tW wLife :: tN z.toNat :: tS wSemi :: tS wClose :: rest) _ _ _ = _
    rw [typLoop.eq_def]
    dsimp only
    rw [show isText wClose (tW wLife) = false by kernel_rfl, show isText wLife (tW wLife) = true by kernel_rfl, if_neg (by decide), if_pos (by decide)]
    rw [show isNumT (tN z.toNat) = true from rfl, if_pos rfl, is_semi, if_pos rfl, hc]
    rfl
  · rw [if_neg hz]
    have : z.toNat = 0 := by omega
    rw [this]
    exact hc _ _ _
theorem rd_typ {t : Typ} (h : 0 ≤ t.flags ∧ t.flags ≤ 127 ∧ 0 ≤ t.life) (rest : List Tok) : rdTyp (tW t.name :: tS wOpen :: (flagsToks t.flags 7 ++ (lifeToks t.life ++ (tS wClose :: rest)))) = .ok rest (pT t) := by
  have hf : t.flags.toNat < 128 := by omega
  unfold rdTyp word expect
  rw [take_yes _ (show isWordT (tW t.name) = true from rfl)]
  rw [ok_bind]
  rw [take_yes _ is_open]
  rw [ok_bind]
  rw [loop_flags hf 7 _ (Nat.le_refl _), loop_life h.2.2]
  show Rd.ok rest _ = _
  rw [Nat.mod_eq_of_lt (show t.flags.toNat < 2 ^ 7 by omega)]
  rfl
theorem rd_rul (k : Nat) (a b : ByteArray) (rest : List Tok) : rdRul k (tW a :: tS wArrow :: tW b :: tS wSemi :: rest) = .ok rest ⟨k, tW a, tW b⟩ := by
  unfold rdRul word expect
  rw [take_yes _ (show isWordT (tW a) = true from rfl)]
  rw [ok_bind]
  rw [take_yes _ is_arrow]
  rw [ok_bind]
  rw [take_yes _ (show isWordT (tW b) = true from rfl)]
  rw [ok_bind]
  rw [take_yes _ is_semi]
  rfl
theorem rd_opt_no (s : ByteArray) (z : Nat) (t : Tok) (l : List Tok) (h : (t.text.toList == s.toList) = false) : opt s z (t :: l) = .ok (t :: l) z := by
  unfold opt
  rw [if_neg (by show ¬ (t.text.toList == s.toList) = true; rw [h]; decide)]
theorem rd_opt_yes (s : ByteArray) (z n : Nat) (l : List Tok) : opt s z (tW s :: tN n :: l) = .ok l n := by
  unfold opt
  rw [if_pos (by show ((tW s).text.toList == s.toList) = true; exact text_eq_iff.2 rfl)]
  unfold expect num
  rw [take_yes _ (is_self s)]
  rw [ok_bind]
  rw [take_yes _ (show isNumT (tN n) = true from rfl)]
  rfl
theorem command_word {z : Int} (h1 : 1 ≤ z) (h2 : z ≤ 27) : commandN (wordN z) = z.toNat := by
  have h : ((List.range 27).all fun j => decide (commandN (wordN ((j : Int) + 1)) = j + 1)) = true := by kernel_rfl
  have h3 := of_decide_eq_true (List.all_eq_true.1 h (z.toNat - 1) (List.mem_range.2 (by omega)))
  rw [show (((z.toNat - 1 : Nat) : Int) + 1) = z by omega] at h3
  omega
theorem rd_quo {q : Quo} (h : 1 ≤ q.cmd ∧ q.cmd ≤ 27 ∧ 0 ≤ q.delay ∧ 0 ≤ q.uses) (rest : List Tok) :
    rdQuo (tW (wordN q.cmd) :: tN q.count.toNat :: (delayToks q.delay ++ (tW wWithin :: tN q.valid.toNat :: (usesToks q.uses ++ (tS wSemi :: rest))))) = .ok rest (pQ q) := by
  obtain ⟨h1, h2, h3, h4⟩ := h
  have hc := command_word h1 h2
  have hD : ∀ l, opt wAfter 0 (delayToks q.delay ++ (tW wWithin :: l)) = .ok (tW wWithin :: l) q.delay.toNat := fun l => by
    unfold delayToks
    by_cases hz : 0 < q.delay
    · rw [if_pos hz]
      exact rd_opt_yes _ _ _ _
    · rw [if_neg hz, show q.delay.toNat = 0 by omega]
      exact rd_opt_no _ _ _ _ (by kernel_rfl)
  have hU : ∀ l, opt wUses 1 (usesToks q.uses ++ (tS wSemi :: l)) = .ok (tS wSemi :: l) q.uses.toNat := fun l => by
    unfold usesToks
    by_cases hz : q.uses = 1
    · rw [if_pos hz, hz]
      exact rd_opt_no _ _ _ _ (by kernel_rfl)
    · rw [if_neg hz]
      exact rd_opt_yes _ _ _ _
  unfold rdQuo num expect
  have e : isCommand (tW (wordN q.cmd)) = true := by
    show decide (0 < commandN (wordN q.cmd)) = true
    rw [hc]
    exact decide_eq_true (by omega)
  rw [take_yes _ e]
  rw [ok_bind]
  rw [take_yes _ (show isNumT (tN q.count.toNat) = true from rfl)]
  rw [ok_bind]
  rw [hD]
  rw [ok_bind]
  rw [take_yes _ (is_self _)]
  rw [ok_bind]
  rw [take_yes _ (show isNumT (tN q.valid.toNat) = true from rfl)]
  rw [ok_bind]
  rw [hU]
  rw [ok_bind]
  rw [take_yes _ is_semi]
  show Rd.ok rest (PQuo.mk (commandN (wordN q.cmd)) _ _ _ _) = _
  rw [hc]
  rfl
theorem items_typ {t : Typ} (h : 0 ≤ t.flags ∧ t.flags ≤ 127 ∧ 0 ≤ t.life) (f : Nat) (rest : List Tok) (st : St) : items (f + 1) (typToks t ++ rest) st = items f rest { st with typs := st.typs ++ [pT t] } := by
  have e : typToks t ++ rest = tW wType :: tW t.name :: tS wOpen :: (flagsToks t.flags 7 ++ (lifeToks t.life ++ (tS wClose :: rest))) := by simp [typToks]
  rw [e, items, if_neg (by rw [show isText wClose (tW wType) = false by kernel_rfl]; decide), if_pos (is_self _), rd_typ h]
  rfl
theorem items_typs : ∀ (ts : List Typ) (f : Nat) (rest : List Tok) (st : St), (∀ t ∈ ts, 0 ≤ t.flags ∧ t.flags ≤ 127 ∧ 0 ≤ t.life) → items (f + ts.length) (ts.flatMap typToks ++ rest) st = items f rest { st with typs := st.typs ++ ts.map pT }
  | [], f, rest, st, _ => by simp
  | t :: ts, f, rest, st, h => by
    rw [List.flatMap_cons, List.append_assoc, List.length_cons, ← Nat.add_assoc, items_typ (h t (by simp)), items_typs ts f rest _ fun u hu => h u (by simp [hu])]
    simp
theorem rule_facts {k : Nat} (hk : k < 5) : isText wClose (tW (ruleWords.getD k ⟨#[]⟩)) = false ∧ isText wType (tW (ruleWords.getD k ⟨#[]⟩)) = false ∧ isText wQuorum (tW (ruleWords.getD k ⟨#[]⟩)) = false ∧ findW ruleWords (ruleWords.getD k ⟨#[]⟩) = k := by
  have h : ((List.range 5).all fun j => !isText wClose (tW (ruleWords.getD j ⟨#[]⟩)) && !isText wType (tW (ruleWords.getD j ⟨#[]⟩)) && !isText wQuorum (tW (ruleWords.getD j ⟨#[]⟩)) && decide (findW ruleWords (ruleWords.getD j ⟨#[]⟩) = j)) = true := by kernel_rfl
  have h2 := List.all_eq_true.1 h k (List.mem_range.2 hk)
  simp only [Bool.and_eq_true, Bool.not_eq_true'] at h2
  exact ⟨h2.1.1.1, h2.1.1.2, h2.1.2, of_decide_eq_true h2.2⟩
theorem items_rul {ts : List Typ} {r : Rul} (h : 1 ≤ r.kind ∧ r.kind ≤ 5) (f : Nat) (rest : List Tok) (st : St) : items (f + 1) (rulToks ts r ++ rest) st = items f rest { st with ruls := st.ruls ++ [pR ts r] } := by
  obtain ⟨f1, f2, f3, f4⟩ := rule_facts (show r.kind.toNat - 1 < 5 by omega)
  have e : rulToks ts r ++ rest = tW (ruleWords.getD (r.kind.toNat - 1) ⟨#[]⟩) :: tW (nameOf ts r.a) :: tS wArrow :: tW (nameOf ts r.b) :: tS wSemi :: rest := rfl
  have e2 : (tW (ruleWords.getD (r.kind.toNat - 1) ⟨#[]⟩)).text = ruleWords.getD (r.kind.toNat - 1) ⟨#[]⟩ := rfl
  rw [e, items, if_neg (by rw [f1]; decide), if_neg (by rw [f2]; decide), if_neg (by rw [f3]; decide), e2, f4, if_pos (by omega), rd_rul, show r.kind.toNat - 1 + 1 = r.kind.toNat by omega]
  rfl
theorem items_ruls {ts : List Typ} : ∀ (rs : List Rul) (f : Nat) (rest : List Tok) (st : St), (∀ r ∈ rs, 1 ≤ r.kind ∧ r.kind ≤ 5) → items (f + rs.length) (rs.flatMap (rulToks ts) ++ rest) st = items f rest { st with ruls := st.ruls ++ rs.map (pR ts) }
  | [], f, rest, st, _ => by simp
  | t :: rs, f, rest, st, h => by
    rw [List.flatMap_cons, List.append_assoc, List.length_cons, ← Nat.add_assoc, items_rul (h t (by simp)), items_ruls rs f rest _ fun u hu => h u (by simp [hu])]
    simp
theorem items_quo {q : Quo} (h : 1 ≤ q.cmd ∧ q.cmd ≤ 27 ∧ 0 ≤ q.delay ∧ 0 ≤ q.uses) (f : Nat) (rest : List Tok) (st : St) : items (f + 1) (quoToks q ++ rest) st = items f rest { st with quos := st.quos ++ [pQ q] } := by
  have e : quoToks q ++ rest = tW wQuorum :: tW (wordN q.cmd) :: tN q.count.toNat :: (delayToks q.delay ++ (tW wWithin :: tN q.valid.toNat :: (usesToks q.uses ++ (tS wSemi :: rest)))) := by simp [quoToks]
  rw [e, items, if_neg (by rw [show isText wClose (tW wQuorum) = false by kernel_rfl]; decide), if_neg (by rw [show isText wType (tW wQuorum) = false by kernel_rfl]; decide), if_pos (is_self _), rd_quo h]
  rfl
theorem items_quos : ∀ (qs : List Quo) (f : Nat) (rest : List Tok) (st : St), (∀ q ∈ qs, 1 ≤ q.cmd ∧ q.cmd ≤ 27 ∧ 0 ≤ q.delay ∧ 0 ≤ q.uses) → items (f + qs.length) (qs.flatMap quoToks ++ rest) st = items f rest { st with quos := st.quos ++ qs.map pQ }
  | [], f, rest, st, _ => by simp
  | t :: qs, f, rest, st, h => by
    rw [List.flatMap_cons, List.append_assoc, List.length_cons, ← Nat.add_assoc, items_quo (h t (by simp)), items_quos qs f rest _ fun u hu => h u (by simp [hu])]
    simp
theorem flat_len {α : Type} {g : α → List Tok} : ∀ (l : List α), (∀ a ∈ l, 1 ≤ (g a).length) → l.length ≤ (l.flatMap g).length
  | [], _ => Nat.le_refl _
  | a :: l, h => by
    have h1 := h a (by simp)
    have h2 := flat_len l fun b hb => h b (by simp [hb])
    rw [List.flatMap_cons, List.length_append, List.length_cons]
    omega
theorem policy_toks {p : Pol} (hp : PrOk p) : policy (polToks p) = .ok [] (tW p.name, ⟨p.typs.map pT, p.ruls.map (pR p.typs), p.quos.map pQ⟩) := by
  have e : polToks p = tW wPolicy :: tW p.name :: tS wOpen :: (p.typs.flatMap typToks ++ (p.ruls.flatMap (rulToks p.typs) ++ (p.quos.flatMap quoToks ++ [tS wClose]))) := by simp [polToks]
  obtain ⟨L, hL⟩ : ∃ L, p.typs.flatMap typToks ++ (p.ruls.flatMap (rulToks p.typs) ++ (p.quos.flatMap quoToks ++ [tS wClose])) = L := ⟨_, rfl⟩
  have l1 := flat_len (g := typToks) p.typs fun t _ => by simp [typToks]
  have l2 := flat_len (g := rulToks p.typs) p.ruls fun t _ => by simp [rulToks]
  have l3 := flat_len (g := quoToks) p.quos fun t _ => by simp [quoToks]
  have hlen : p.typs.length + p.ruls.length + p.quos.length + 1 ≤ L.length := by
    rw [← hL]
    simp only [List.length_append, List.length_singleton]
    omega
  obtain ⟨f, hf⟩ : ∃ f, L.length + 1 = ((f + 1) + p.quos.length + p.ruls.length) + p.typs.length := ⟨L.length - (p.typs.length + p.ruls.length + p.quos.length), by omega⟩
  rw [e, hL]
  unfold policy expect word
  rw [take_yes _ (is_self _)]
  rw [ok_bind]
  rw [take_yes _ (show isWordT (tW p.name) = true from rfl)]
  rw [ok_bind]
  rw [take_yes _ is_open]
  rw [ok_bind]
  rw [hf, ← hL, items_typs _ _ _ _ fun t ht => ⟨(hp.typs t ht).2.1, (hp.typs t ht).2.2.1, (hp.typs t ht).2.2.2.1⟩, items_ruls _ _ _ _ fun r hr => ⟨(hp.ruls r hr).1, (hp.ruls r hr).2.1⟩,
    items_quos _ _ _ _ fun q hq => ⟨(hp.quos q hq).1, (hp.quos q hq).2.1, (hp.quos q hq).2.2.2.1.1, (hp.quos q hq).2.2.2.2.2.1⟩, items_close _ _ _ _ is_close]
  rfl
end Go.Proofs.YtemhiiignamkjaaDoor
namespace Go.Proofs.YtemhiiignamkjaaDoor
open LexP ParP

theorem findW_at : ∀ (l : List ByteArray) (i : Nat) (h : i < l.length), l.Nodup → findW l l[i] = i
  | [], _, h, _ => by simp at h
  | z :: l, 0, _, _ => by
    rw [findW_cons]
    exact if_pos (text_eq_iff.2 rfl)
  | z :: l, i + 1, h, hn => by
    obtain ⟨h1, h2⟩ := List.nodup_cons.1 hn
    have hi : i < l.length := by simpa using h
    rw [findW_cons, List.getElem_cons_succ, if_neg, findW_at l i hi h2]
    intro e
    exact h1 (by rw [text_eq_iff.1 e]; exact List.getElem_mem hi)
theorem findW_out : ∀ (l : List ByteArray) (s : ByteArray), s ∉ l → findW l s = l.length
  | [], _, _ => rfl
  | z :: l, s, h => by
    rw [findW_cons, if_neg, findW_out l s (fun hx => h (by simp [hx]))]
    · rfl
    · intro e
      exact h (by rw [text_eq_iff.1 e]; simp)
theorem typIdx_names (ts : List Typ) (s : ByteArray) : typIdx (ts.map pT) s = findW (ts.map Typ.name) s := by
  unfold typIdx findW
  rw [List.findIdx_map, List.findIdx_map]
  rfl
theorem twice_none : ∀ (l b : List Typ), ((b ++ l).map Typ.name).Nodup → twice (b.map pT) (l.map pT) = []
  | [], _, _ => rfl
  | t :: l, b, h => by
    have h2 := twice_none l (b ++ [t]) (by rw [List.append_assoc]; exact h)
    rw [List.map_append] at h2
    rw [List.map_cons, twice, List.length_map]
    have h3 : typIdx (b.map pT) (pT t).name.text = b.length := by
      rw [typIdx_names, findW_out, List.length_map]
      intro hm
      rw [List.map_append, List.map_cons] at h
      have hd := (List.nodup_append.1 h).2.2
      exact hd _ hm _ List.mem_cons_self rfl
    rw [h3, if_neg (Nat.lt_irrefl _)]
    exact h2
theorem idx_name {ts : List Typ} {z : Int} (hn : (ts.map Typ.name).Nodup) (h0 : 0 ≤ z) (h1 : z < ts.length) : typIdx (ts.map pT) (nameOf ts z) = z.toNat := by
  have hi : z.toNat < (ts.map Typ.name).length := by rw [List.length_map]; omega
  have e : nameOf ts z = (ts.map Typ.name)[z.toNat] := by
    unfold nameOf
    rw [List.getD_eq_getElem?_getD, List.getElem?_eq_getElem hi]
    rfl
  rw [typIdx_names, e, findW_at _ _ hi hn]
theorem map_self {α β : Type} {f : α → β} {g : β → α} (l : List α) (h : ∀ a ∈ l, g (f a) = a) : (l.map f).map g = l := by
  rw [List.map_map]
  conv => rhs; rw [← List.map_id l]
  exact List.map_congr_left h
theorem pe_toks {p : Pol} (ho : PolOk p) (h : printableB p = true) : pe (polToks p) = (p, 0) := by
  have hp := prOk p ho h
  have hn : (p.typs.map Typ.name).Nodup := by
    unfold printableB at h
    simp only [Bool.and_eq_true] at h
    exact (typsOk_word _ _ h.1.1.2).2
  unfold pe
  rw [policy_toks hp]
  dsimp only
  have hw : wrongs ⟨p.typs.map pT, p.ruls.map (pR p.typs), p.quos.map pQ⟩ = [] := by
    unfold wrongs
    have ht := twice_none p.typs [] hn
    rw [List.map_nil] at ht
    dsimp only
    rw [ht]
    rw [List.nil_append, List.flatMap_eq_nil_iff]
    intro x hx
    obtain ⟨r, hr, rfl⟩ := List.mem_map.1 hx
    obtain ⟨_, _, h3, h4, h5, h6⟩ := hp.ruls r hr
    unfold missing
    have ea : typIdx (p.typs.map pT) (pR p.typs r).a.text = r.a.toNat := idx_name hn h3 h4
    have eb : typIdx (p.typs.map pT) (pR p.typs r).b.text = r.b.toNat := idx_name hn h5 h6
    rw [ea, eb, List.length_map, if_pos (by omega), if_pos (by omega)]
    rfl
  rw [hw]
  have e1 : (p.typs.map pT).map PTyp.typ = p.typs := map_self _ fun t ht => by
    obtain ⟨_, h2, _, h4, _⟩ := hp.typs t ht
    show Typ.mk t.name ((t.flags.toNat : Nat) : Int) ((t.life.toNat : Nat) : Int) = t
    rw [Int.toNat_of_nonneg h2, Int.toNat_of_nonneg h4]
  have e2 : (p.ruls.map (pR p.typs)).map (PRul.rul (p.typs.map pT)) = p.ruls := map_self _ fun r hr => by
    obtain ⟨h1, _, h3, h4, h5, h6⟩ := hp.ruls r hr
    show Rul.mk ((r.kind.toNat : Nat) : Int) ((typIdx (p.typs.map pT) (nameOf p.typs r.a) : Nat) : Int) ((typIdx (p.typs.map pT) (nameOf p.typs r.b) : Nat) : Int) = r
    rw [idx_name hn h3 h4, idx_name hn h5 h6, Int.toNat_of_nonneg (by omega), Int.toNat_of_nonneg h3, Int.toNat_of_nonneg h5]
  have e3 : (p.quos.map pQ).map PQuo.quo = p.quos := map_self _ fun q hq => by
    obtain ⟨h1, _, ⟨h3, _⟩, ⟨h4, _⟩, ⟨h5, _⟩, h6, _⟩ := hp.quos q hq
    show Quo.mk ((q.cmd.toNat : Nat) : Int) ((q.count.toNat : Nat) : Int) ((q.delay.toNat : Nat) : Int) ((q.valid.toNat : Nat) : Int) ((q.uses.toNat : Nat) : Int) = q
    rw [Int.toNat_of_nonneg (by omega), Int.toNat_of_nonneg h3, Int.toNat_of_nonneg h4, Int.toNat_of_nonneg h5, Int.toNat_of_nonneg h6]
  rw [e1, e2, e3]
  rfl
/-- Parsing a printed policy returns the policy. -/
theorem round_trip {p : Pol} (ho : PolOk p) (h : printableB p = true) {J : ByteArray} (hJ : J.data.toList = printL p) (hl : J.size ≤ 4000) : (parse J).pol = p ∧ (parse J).err = 0 := by
  obtain ⟨m, hm, he⟩ := lay_tokens J (hJ ▸ pg_lay (pg_pol ho h)) hl
  obtain ⟨h1, h2⟩ := parse_pe hm
  have hs := pe_same he
  rw [hs, pe_toks ho h] at h1 h2
  exact ⟨h1, h2⟩
end Go.Proofs.YtemhiiignamkjaaDoor
