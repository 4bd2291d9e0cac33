/-
  Layer 12 (parse): what is read up to a token does not hang on what follows (plain).
-/
import Derived.Test.YtemhiiignamkjaaDoorMZ
namespace Go.Proofs.YtemhiiignamkjaaDoor
open Go.RowKit LexP ParP

/-- What is read ahead of a token does not hang on what follows it. -/
def Loc {α : Type} (f : List Tok → Rd α) (l : List Tok) : Prop := ∀ (pre : List Tok) (t : Tok) (r r' : List Tok), l = pre ++ t :: r →
  (∀ q, f l = .bad (q ++ t :: r) → f (pre ++ t :: r') = .bad (q ++ t :: r')) ∧ (∀ q x, f l = .ok (q ++ t :: r) x → f (pre ++ t :: r') = .ok (q ++ t :: r') x)
/-- What is left is an end of what there was. -/
def Sfx {α : Type} (f : List Tok → Rd α) (l : List Tok) : Prop := (∀ m x, f l = .ok m x → m <:+ l) ∧ ∀ m, f l = .bad m → m <:+ l
section
variable {α β : Type}
theorem app_same {q pre m : List Tok} (h : q ++ m = pre ++ m) : q = pre := List.append_cancel_right h
theorem ok_loc (x : α) (l : List Tok) : Loc (fun l => .ok l x) l := fun pre t r r' e =>
  ⟨fun q h => (by cases h), fun q y h => by
    injection h with h1 h2
    rw [e] at h1
    rw [app_same h1, h2]⟩
theorem ok_sfx (x : α) (l : List Tok) : Sfx (fun l => .ok l x) l := ⟨fun m y h => (by injection h with h1 _; rw [← h1]; exact List.suffix_refl _), fun m h => (by cases h)⟩
theorem nil_loc {f : List Tok → Rd α} : Loc f [] := fun pre t r r' e => by simp at e
theorem bad_loc {f : List Tok → Rd α} {t0 : Tok} {r0 : List Tok} (hf : ∀ r, f (t0 :: r) = .bad (t0 :: r)) : Loc f (t0 :: r0) := fun pre t r r' e => by
  have hp : ∃ a b, pre ++ t :: r' = t0 :: (a ++ b) ∧ pre ++ t :: r' = t0 :: b := by
    cases pre with
    | nil => injection e with e1 e2; exact ⟨[], r', by rw [e1]; rfl, by rw [e1]; rfl⟩
    | cons a p => injection e with e1 e2; exact ⟨[], p ++ t :: r', by rw [e1]; rfl, by rw [e1]; rfl⟩
  obtain ⟨a, b, _, h2⟩ := hp
  refine ⟨fun q h => ?_, fun q x h => ?_⟩
  · rw [hf, e] at h
    injection h with h
    rw [h2, hf, ← h2, app_same h]
  · rw [hf] at h
    cases h
theorem long_not {q r : List Tok} {t : Tok} : ¬ (q ++ t :: r) <:+ r := fun h => by
  have := h.length_le
  rw [List.length_append, List.length_cons] at this
  omega
theorem cons_loc {f g : List Tok → Rd α} {t0 : Tok} {r0 : List Tok} (hf : ∀ r, f (t0 :: r) = g r) (hs : Sfx g r0) (hl : Loc g r0) : Loc f (t0 :: r0) := fun pre t r r' e => by
  cases pre with
  | nil =>
    injection e with e1 e2
    subst e1 e2
    refine ⟨fun q h => ?_, fun q x h => ?_⟩
    · rw [hf] at h
      exact absurd (hs.2 _ h) long_not
    · rw [hf] at h
      exact absurd (hs.1 _ _ h) long_not
  | cons a p =>
    injection e with e1 e2
    subst e1
    rw [hf, List.cons_append, hf]
    exact hl p t r r' e2
theorem cons_sfx {f g : List Tok → Rd α} {t0 : Tok} {r0 : List Tok} (hf : ∀ r, f (t0 :: r) = g r) (hs : Sfx g r0) : Sfx f (t0 :: r0) :=
  ⟨fun m x h => (hs.1 m x (by rw [← hf]; exact h)).trans (List.suffix_cons _ _), fun m h => (hs.2 m (by rw [← hf]; exact h)).trans (List.suffix_cons _ _)⟩
theorem bind_sfx {f : List Tok → Rd α} {g : List Tok → α → Rd β} {l : List Tok} (hf : Sfx f l) (hg : ∀ m x, f l = .ok m x → Sfx (fun m => g m x) m) : Sfx (fun l => (f l).bind g) l := by
  constructor
  · intro m y h
    cases e : f l with
    | bad k => simp only [e, Rd.bind] at h; cases h
    | ok k x =>
      simp only [e, Rd.bind] at h
      exact ((hg k x e).1 m y h).trans (hf.1 k x e)
  · intro m h
    cases e : f l with
    | bad k => simp only [e, Rd.bind] at h; injection h with h; subst h; exact hf.2 k e
    | ok k x =>
      simp only [e, Rd.bind] at h
      exact ((hg k x e).2 m h).trans (hf.1 k x e)
theorem bind_loc {f : List Tok → Rd α} {g : List Tok → α → Rd β} {l : List Tok} (hl : Loc f l) (hg : ∀ m x, f l = .ok m x → Sfx (fun m => g m x) m ∧ Loc (fun m => g m x) m) : Loc (fun l => (f l).bind g) l := fun pre t r r' e => by
  have hL := hl pre t r r' e
  constructor
  · intro q h
    cases ef : f l with
    | bad k =>
      simp only [ef, Rd.bind] at h
      injection h with h
      subst h
      show (f (pre ++ t :: r')).bind g = _
      rw [hL.1 q ef]
      rfl
    | ok k x =>
      simp only [ef, Rd.bind] at h
      obtain ⟨g1, g2⟩ := hg k x ef
      obtain ⟨z, hz⟩ := g1.2 _ h
      rw [← List.append_assoc] at hz
      show (f (pre ++ t :: r')).bind g = _
      rw [hL.2 (z ++ q) x (by rw [ef, hz])]
      exact (g2 (z ++ q) t r r' hz.symm).1 q h
  · intro q y h
    cases ef : f l with
    | bad k => simp only [ef, Rd.bind] at h; cases h
    | ok k x =>
      simp only [ef, Rd.bind] at h
      obtain ⟨g1, g2⟩ := hg k x ef
      obtain ⟨z, hz⟩ := g1.1 _ _ h
      rw [← List.append_assoc] at hz
      show (f (pre ++ t :: r')).bind g = _
      rw [hL.2 (z ++ q) x (by rw [ef, hz])]
      exact (g2 (z ++ q) t r r' hz.symm).2 q y h
end
theorem take_sfx (p : Tok → Bool) (l : List Tok) : Sfx (take p) l := by
  constructor
  · intro m x h
    obtain ⟨rfl, _⟩ := take_ok h
    exact List.suffix_cons _ _
  · intro m h
    rw [take_bad h]
    exact List.suffix_refl _
theorem take_loc (p : Tok → Bool) (l : List Tok) : Loc (take p) l := by
  cases l with
  | nil => exact nil_loc
  | cons t0 r0 =>
    by_cases hp : p t0 = true
    · exact cons_loc (g := fun r => .ok r t0) (fun r => take_yes r hp) (ok_sfx _ _) (ok_loc _ _)
    · exact bad_loc fun r => take_no r (by simpa using hp)
/-- Both. -/
def LS {α : Type} (f : List Tok → Rd α) (l : List Tok) : Prop := Sfx f l ∧ Loc f l
theorem take_ls (p : Tok → Bool) (l : List Tok) : LS (take p) l := ⟨take_sfx p l, take_loc p l⟩
theorem ok_ls {α : Type} (x : α) (l : List Tok) : LS (fun l => .ok l x) l := ⟨ok_sfx x l, ok_loc x l⟩
theorem bind_ls {α β : Type} {f : List Tok → Rd α} {g : List Tok → α → Rd β} {l : List Tok} (hf : LS f l) (hg : ∀ m x, f l = .ok m x → LS (fun m => g m x) m) : LS (fun l => (f l).bind g) l :=
  ⟨bind_sfx hf.1 fun m x h => (hg m x h).1, bind_loc hf.2 fun m x h => hg m x h⟩
theorem nil_ls {α : Type} {f : List Tok → Rd α} (h : f [] = .bad []) : LS f [] := ⟨⟨fun m x e => (by rw [h] at e; cases e), fun m e => (by rw [h] at e; injection e with e; rw [← e]; exact List.suffix_refl _)⟩, nil_loc⟩
theorem cons_ls {α : Type} {f g : List Tok → Rd α} {t0 : Tok} {r0 : List Tok} (hf : ∀ r, f (t0 :: r) = g r) (hs : LS g r0) : LS f (t0 :: r0) := ⟨cons_sfx hf hs.1, cons_loc hf hs.1 hs.2⟩
theorem bad_ls {α : Type} {f : List Tok → Rd α} {t0 : Tok} {r0 : List Tok} (hf : ∀ r, f (t0 :: r) = .bad (t0 :: r)) : LS f (t0 :: r0) :=
  ⟨⟨fun m x e => (by rw [hf] at e; cases e), fun m e => (by rw [hf] at e; injection e with e; rw [← e]; exact List.suffix_refl _)⟩, bad_loc hf⟩
theorem typLoop_cons (t : Tok) (r : List Tok) (fl lf : Nat) (lb : Bool) : typLoop (t :: r) fl lf lb =
    if isText wClose t then .ok r (fl, lf)
    else if isText wLife t && !lb then (num r).bind fun r2 u => (expect wSemi r2).bind fun r3 _ => typLoop r3 fl u.n true
    else if findW flagWords t.text < 7 && !fl.testBit (findW flagWords t.text) then (expect wSemi r).bind fun r2 _ => typLoop r2 (fl + 2 ^ findW flagWords t.text) lf lb
    else .bad (t :: r) := by
  rw [typLoop.eq_def]
  dsimp only
  split
  · rfl
  · split
    · cases r with
      | nil => rfl
      | cons u r2 =>
        dsimp only
        unfold num
        rw [take]
        split
        · rw [ok_bind]
          cases r2 with
          | nil => rfl
          | cons v r3 =>
            dsimp only
            unfold expect
            rw [take]
            split <;> rfl
        · rfl
    · split
      · cases r with
        | nil => rfl
        | cons v r2 =>
          dsimp only
          unfold expect
          rw [take]
          split <;> rfl
      · rfl
theorem typLoop_ls : ∀ (N : Nat) (l : List Tok) (fl lf : Nat) (lb : Bool), l.length ≤ N → LS (fun l => typLoop l fl lf lb) l := by
  intro N
  induction N with
  | zero =>
    intro l fl lf lb hl
    have : l = [] := List.eq_nil_of_length_eq_zero (Nat.le_zero.1 hl)
    subst this
    exact nil_ls (by rw [typLoop.eq_def])
  | succ N ih =>
    intro l fl lf lb hl
    cases l with
    | nil => exact nil_ls (by rw [typLoop.eq_def])
    | cons t r0 =>
      have hr : r0.length ≤ N := by simpa using hl
      by_cases h1 : isText wClose t = true
      · exact cons_ls (g := fun r => .ok r (fl, lf)) (fun r => by rw [typLoop_cons, if_pos h1]) (ok_ls _ _)
      · by_cases h2 : (isText wLife t && !lb) = true
        · refine cons_ls (g := fun r => (num r).bind fun r2 u => (expect wSemi r2).bind fun r3 _ => typLoop r3 fl u.n true) (fun r => by rw [typLoop_cons, if_neg h1, if_pos h2]) (bind_ls (take_ls _ _) fun m x hm => bind_ls (take_ls _ _) fun m2 x2 hm2 => ih m2 _ _ _ ?_)
          have a := ParP.take_len hm
          have b := ParP.take_len hm2
          omega
        · by_cases h3 : (decide (findW flagWords t.text < 7) && !fl.testBit (findW flagWords t.text)) = true
          · refine cons_ls (g := fun r => (expect wSemi r).bind fun r2 _ => typLoop r2 (fl + 2 ^ findW flagWords t.text) lf lb) (fun r => by rw [typLoop_cons, if_neg h1, if_neg h2, if_pos h3]) (bind_ls (take_ls _ _) fun m2 x2 hm2 => ih m2 _ _ _ ?_)
            have b := ParP.take_len hm2
            omega
          · exact bad_ls fun r => by rw [typLoop_cons, if_neg h1, if_neg h2, if_neg h3]
theorem opt_ls (s : ByteArray) (z : Nat) (l : List Tok) : LS (opt s z) l := by
  cases l with
  | nil =>
    by_cases h : ((⟨#[]⟩ : ByteArray).toList == s.toList) = true
    · exact nil_ls (by unfold opt; rw [if_pos (show ((peek []).toList == s.toList) = true from h)]; rfl)
    · have e : opt s z [] = .ok [] z := by unfold opt; rw [if_neg (show ¬ ((peek []).toList == s.toList) = true from h)]
      exact ⟨⟨fun m x h => (by rw [e] at h; injection h with h _; rw [← h]; exact List.suffix_refl _), fun m h => (by rw [e] at h; cases h)⟩, nil_loc⟩
  | cons t r =>
    by_cases h : (t.text.toList == s.toList) = true
    · have hp : isText s t = true := h
      exact cons_ls (g := fun r => (num r).bind fun l2 t => .ok l2 t.n) (fun r => by
        unfold opt expect
        rw [if_pos (show ((peek (t :: r)).toList == s.toList) = true from h), take_yes _ hp]
        rfl) (bind_ls (take_ls _ _) fun m x _ => ok_ls _ _)
    · have e : ∀ r, opt s z (t :: r) = .ok (t :: r) z := fun r => by
        unfold opt
        rw [if_neg (show ¬ ((peek (t :: r)).toList == s.toList) = true from h)]
      refine ⟨⟨fun m x h => (by rw [e] at h; injection h with h _; rw [← h]; exact List.suffix_refl _), fun m h => (by rw [e] at h; cases h)⟩, fun pre t2 r2 r' e2 => ⟨fun q h => (by rw [e] at h; cases h), fun q x h => ?_⟩⟩
      rw [e, e2] at h
      injection h with h1 h2
      have h3 : ∃ b, pre ++ t2 :: r' = t :: b := by
        cases pre with
        | nil => injection e2 with e3 e4; exact ⟨r', by rw [e3]; rfl⟩
        | cons a p => injection e2 with e3 e4; exact ⟨p ++ t2 :: r', by rw [e3]; rfl⟩
      obtain ⟨b, hb⟩ := h3
      rw [hb, e, ← hb, app_same h1, h2]
theorem rdTyp_ls (l : List Tok) : LS rdTyp l := bind_ls (take_ls _ _) fun _ _ _ => bind_ls (take_ls _ _) fun m _ _ => bind_ls (typLoop_ls _ m 0 0 false (Nat.le_refl _)) fun _ _ _ => ok_ls _ _
theorem rdRul_ls (k : Nat) (l : List Tok) : LS (rdRul k) l := bind_ls (take_ls _ _) fun _ _ _ => bind_ls (take_ls _ _) fun _ _ _ => bind_ls (take_ls _ _) fun _ _ _ => bind_ls (take_ls _ _) fun _ _ _ => ok_ls _ _
theorem rdQuo_ls (l : List Tok) : LS rdQuo l := bind_ls (take_ls _ _) fun _ _ _ => bind_ls (take_ls _ _) fun _ _ _ => bind_ls (opt_ls _ _ _) fun _ _ _ => bind_ls (take_ls _ _) fun _ _ _ => bind_ls (take_ls _ _) fun _ _ _ =>
  bind_ls (opt_ls _ _ _) fun _ _ _ => bind_ls (take_ls _ _) fun _ _ _ => ok_ls _ _
theorem item_ls (st : St) (k : Nat) (l : List Tok) : LS (fun l => item l st k) l := by
  unfold item
  split
  · exact bind_ls (rdTyp_ls _) fun _ _ _ => ok_ls _ _
  · split
    · exact bind_ls (rdQuo_ls _) fun _ _ _ => ok_ls _ _
    · exact bind_ls (rdRul_ls _ _) fun _ _ _ => ok_ls _ _
theorem bind_cong {α β : Type} {a : Rd α} {f g : List Tok → α → Rd β} (h : ∀ m x, a = .ok m x → f m x = g m x) : a.bind f = a.bind g := by
  cases a with
  | ok m x => exact h m x rfl
  | bad m => rfl
theorem items_fuel : ∀ (N f : Nat) (l : List Tok) (st : St), l.length ≤ N → l.length < f → items f l st = items (l.length + 1) l st := by
  intro N
  induction N with
  | zero =>
    intro f l st hl hf
    have : l = [] := List.eq_nil_of_length_eq_zero (Nat.le_zero.1 hl)
    subst this
    rw [items_end, items_end]
  | succ N ih =>
    intro f l st hl hf
    cases l with
    | nil => rw [items_end, items_end]
    | cons t r =>
      have hr : r.length ≤ N := by simpa using hl
      obtain ⟨f, rfl⟩ : ∃ g, f = g + 1 := ⟨f - 1, by omega⟩
      have hf2 : r.length < f := by simp at hf; omega
      by_cases hc : isText wClose t = true
      · rw [items_close _ _ _ _ hc, items_close _ _ _ _ hc]
      · have hc : isText wClose t = false := by simpa using hc
        rw [items_round _ _ _ _ hc, items_round _ _ _ _ hc]
        split
        · refine bind_cong fun m x hm => ?_
          have := item_len hm
          rw [ih f m x (by omega) (by omega), ih (t :: r).length m x (by omega) (by rw [List.length_cons]; omega)]
        · rfl
/-- The items, whatever the bound. -/
def itemsR (l : List Tok) (st : St) : Rd St := items (l.length + 1) l st
theorem itemsR_cons {t : Tok} (r : List Tok) (st : St) (hc : isText wClose t = false) : itemsR (t :: r) st = if findW words7 t.text < 7 then (item r st (findW words7 t.text)).bind itemsR else .bad (t :: r) := by
  unfold itemsR
  rw [List.length_cons, items_round _ _ _ _ hc]
  split
  · refine bind_cong fun m x hm => ?_
    have := item_len hm
    rw [items_fuel m.length (r.length + 1) m x (Nat.le_refl _) (by omega)]
  · rfl
theorem itemsR_ls : ∀ (N : Nat) (l : List Tok) (st : St), l.length ≤ N → LS (fun l => itemsR l st) l := by
  intro N
  induction N with
  | zero =>
    intro l st hl
    have : l = [] := List.eq_nil_of_length_eq_zero (Nat.le_zero.1 hl)
    subst this
    exact nil_ls (items_end _ _)
  | succ N ih =>
    intro l st hl
    cases l with
    | nil => exact nil_ls (items_end _ _)
    | cons t r0 =>
      have hr : r0.length ≤ N := by simpa using hl
      by_cases hc : isText wClose t = true
      · exact cons_ls (g := fun r => .ok r st) (fun r => items_close _ _ _ _ hc) (ok_ls _ _)
      · have hc : isText wClose t = false := by simpa using hc
        by_cases h7 : findW words7 t.text < 7
        · refine cons_ls (g := fun r => (item r st (findW words7 t.text)).bind itemsR) (fun r => by rw [itemsR_cons r st hc, if_pos h7]) (bind_ls (item_ls _ _ _) fun m x hm => ih m x ?_)
          have := item_len hm
          omega
        · exact bad_ls fun r => by rw [itemsR_cons r st hc, if_neg h7]
theorem end_ls (nm : Tok) (st : St) (l : List Tok) : LS (fun l4 => if l4.isEmpty then .ok [] (nm, st) else .bad l4) l := by
  cases l with
  | nil => exact ⟨⟨fun m x h => (by injection h with h _; rw [← h]; exact List.suffix_refl _), fun m h => (by cases h)⟩, nil_loc⟩
  | cons t r => exact bad_ls fun r => rfl
theorem policy_ls (l : List Tok) : LS policy l :=
  bind_ls (take_ls _ _) fun _ _ _ => bind_ls (take_ls _ _) fun _ _ _ => bind_ls (take_ls _ _) fun m _ _ => bind_ls (itemsR_ls _ m _ (Nat.le_refl _)) fun _ _ _ => end_ls _ _ _
/-- The first token that does not fit stays the first, whatever follows it. -/
theorem policy_local {pre r : List Tok} {t : Tok} (h : policy (pre ++ t :: r) = .bad (t :: r)) (r' : List Tok) : policy (pre ++ t :: r') = .bad (t :: r') :=
  ((policy_ls _).2 pre t r r' rfl).1 [] h
theorem policy_end {l m : List Tok} (h : policy l = .bad m) : ∃ pre, l = pre ++ m := by
  obtain ⟨z, hz⟩ := (policy_ls l).1.2 m h
  exact ⟨z, hz.symm⟩
end Go.Proofs.YtemhiiignamkjaaDoor
