/-
  Layer 46 (script): in plain words: the lines ahead of an error are read, those up to it are not.
-/
import Derived.Test.YtldkfhimpkiigaaGreatDoorScrP7
import Derived.Lib.Join
namespace Go.Proofs.YtldkfhimpkiigaaGreatDoor
namespace ScrP

theorem parts_free (c : UInt8) : ∀ (l p : List UInt8), p ∈ partsB c l → ∀ x ∈ p, x ≠ c
  | [], p, hp, x, hx => by
    have : p ∈ ([[]] : List (List UInt8)) := hp
    rw [List.mem_singleton] at this
    subst this
    cases hx
  | b :: l, p, hp, x, hx => by
    by_cases h : b = c
    · subst h
      rw [partsB_hit] at hp
      rcases List.mem_cons.1 hp with rfl | hp
      · cases hx
      · exact parts_free b l p hp x hx
    · obtain ⟨a, t, e1, e2⟩ := partsB_miss l h
      rw [e2] at hp
      rcases List.mem_cons.1 hp with rfl | hp
      · rcases List.mem_cons.1 hx with rfl | hx
        · exact h
        · exact parts_free c l a (by rw [e1]; exact List.mem_cons_self ..) x hx
      · exact parts_free c l p (by rw [e1]; exact List.mem_cons_of_mem _ hp) x hx
theorem parts_ne (c : UInt8) (l : List UInt8) : partsB c l ≠ [] := by
  cases l with
  | nil => exact List.cons_ne_nil _ _
  | cons b l =>
    by_cases h : b = c
    · subst h; rw [partsB_hit]; exact List.cons_ne_nil _ _
    · obtain ⟨a, t, _, e2⟩ := partsB_miss l h
      rw [e2]; exact List.cons_ne_nil _ _
theorem parts_of_join : ∀ (ls : List (List UInt8)), ls ≠ [] → (∀ l ∈ ls, ∀ x ∈ l, x ≠ 10) → partsB 10 (Lib.join ls [10]) = ls
  | [], h, _ => absurd rfl h
  | [l], _, h => by rw [Lib.join_one]; exact parts_none (h l (List.mem_cons_self ..))
  | a :: b :: r, _, h => by
    have e : Lib.join (a :: b :: r) [10] = a ++ 10 :: Lib.join (b :: r) [10] := by simp [Lib.join, List.intercalate]
    rw [e, parts_app, parts_none (h a (List.mem_cons_self ..)), parts_of_join (b :: r) (List.cons_ne_nil _ _) (fun l hl => h l (List.mem_cons_of_mem _ hl))]
    rfl
theorem check_err (s : Scr) : (checkS s).2 = 0 ∨ (checkS s).2 = 1 ∨ (checkS s).2 = 2 := by
  unfold checkS
  split
  · exact .inr (.inr rfl)
  · split
    · exact .inr (.inl rfl)
    · split
      · exact .inr (.inl rfl)
      · exact .inl rfl
theorem stepW_err {l : List (List UInt8)} {c : Int} (h : stepW l = .error c) : c ≠ 0 := by
  unfold stepW at h
  repeat' split at h
  all_goals first | (cases h; decide) | cases h
/-- Where no error is, no line is told. -/
theorem readL_ok : ∀ (l : List (List UInt8)) (k : Nat) (s : Scr) (o e : Bool), (readL l k s o e).err = 0 → (readL l k s o e).line = 0
  | [], k, s, o, e, h => by
    rw [readL] at h ⊢
    split at h
    · cases h
    · rename_i h1
      rw [if_neg h1] 
      split at h
      · rename_i h2; rw [if_pos h2]
      · rename_i h2; rw [if_neg h2]
  | x :: r, k, s, o, e, h => by
    rw [readL] at h ⊢
    split at h
    · rename_i h1
      rw [if_pos h1]
      split at h
      · rename_i h2; rw [if_pos h2]; exact readL_ok _ _ _ _ _ h
      · cases h
    · rename_i h1
      rw [if_neg h1]
      split at h
      · cases h
      · rename_i h2
        rw [if_neg h2]
        split at h
        · rename_i h3; rw [if_pos h3]; exact readL_ok _ _ _ _ _ h
        · rename_i h3
          rw [if_neg h3]
          split at h
          · rename_i h4; rw [if_pos h4]; exact readL_ok _ _ _ _ _ h
          · rename_i h4
            rw [if_neg h4]
            cases hw : stepW (wordsB x) with
            | error c => rw [hw] at h; exact absurd h (stepW_err hw)
            | ok y => rw [hw] at h; exact readL_ok _ _ _ _ _ h
theorem three_ne : (3 : Int) ≠ 0 := by decide
/-- An error that has a line: the lines ahead of it lead to a state, and the line itself to an error. -/
theorem readL_err : ∀ (l : List (List UInt8)) (k : Nat) (s : Scr) (o e : Bool), (readL l k s o e).err ≠ 0 → (readL l k s o e).line ≠ 0 →
    ((readL l k s o e).line = k ∧ (o && e) = true) ∨
    ∃ m, (readL l k s o e).line = k + m + 1 ∧ m < l.length ∧ ∃ s' o' e', (o' && e') = false ∧ (∀ tail, readL (l.take m ++ tail) k s o e = readL tail (k + m) s' o' e') ∧ ∀ x, l[m]? = some x → (readL [x] (k + m) s' o' e').err ≠ 0
  | [], k, s, o, e, h, hl => by
    rw [readL] at h hl ⊢
    by_cases h1 : (o && e) = true
    · rw [if_pos h1]; exact .inl ⟨rfl, h1⟩
    · rw [if_neg h1] at hl
      split at hl
      · exact absurd rfl hl
      · exact absurd rfl hl
  | x :: r, k, s, o, e, h, hl => by
    -- one line more
    have shift : ∀ (s1 : Scr) (o1 e1 : Bool), (o1 && e1) = false → (∀ tail, readL (x :: tail) k s o e = readL tail (k + 1) s1 o1 e1) → (readL r (k + 1) s1 o1 e1).err ≠ 0 → (readL r (k + 1) s1 o1 e1).line ≠ 0 →
        ∃ m, (readL r (k + 1) s1 o1 e1).line = k + m + 1 ∧ m < (x :: r).length ∧ ∃ s' o' e', (o' && e') = false ∧ (∀ tail, readL ((x :: r).take m ++ tail) k s o e = readL tail (k + m) s' o' e') ∧ ∀ y, (x :: r)[m]? = some y → (readL [y] (k + m) s' o' e').err ≠ 0 := by
      intro s1 o1 e1 hoe hstep he1 hl1
      rcases readL_err r (k + 1) s1 o1 e1 he1 hl1 with ⟨_, h3⟩ | ⟨m, h3, h4, s', o', e', h5, h6, h7⟩
      · rw [hoe] at h3; cases h3
      · refine ⟨m + 1, by rw [h3]; omega, by rw [List.length_cons]; omega, s', o', e', h5, fun tail => ?_, fun y hy => ?_⟩
        · rw [List.take_succ_cons, List.cons_append, hstep, h6, show k + 1 + m = k + (m + 1) by omega]
        · rw [List.getElem?_cons_succ] at hy
          have := h7 y hy
          rwa [show k + 1 + m = k + (m + 1) by omega] at this
    have here : (o && e) = false → (∀ tail, (readL (x :: tail) k s o e).err ≠ 0 ∨ True) → (readL [x] k s o e).err ≠ 0 → (readL (x :: r) k s o e).line = k + 1 → 
        ((readL (x :: r) k s o e).line = k ∧ (o && e) = true) ∨ ∃ m, (readL (x :: r) k s o e).line = k + m + 1 ∧ m < (x :: r).length ∧ ∃ s' o' e', (o' && e') = false ∧ (∀ tail, readL ((x :: r).take m ++ tail) k s o e = readL tail (k + m) s' o' e') ∧ ∀ y, (x :: r)[m]? = some y → (readL [y] (k + m) s' o' e').err ≠ 0 := by
      intro hoe _ h1 h2
      refine .inr ⟨0, h2, by rw [List.length_cons]; omega, s, o, e, hoe, fun tail => rfl, fun y hy => ?_⟩
      rw [List.getElem?_cons_zero] at hy
      cases hy
      exact h1
    by_cases h1 : isBar x = true
    · by_cases h2 : o = true
      · have hst : ∀ tail, readL (x :: tail) k s o e = readL tail (k + 1) ⟨addLine s.texts e x, s.steps⟩ true false := fun tail => by rw [readL, if_pos h1, if_pos h2]
        rw [hst] at h hl ⊢
        exact .inr (shift _ _ _ rfl hst h hl)
      · have hst : ∀ tail, readL (x :: tail) k s o e = ⟨noScr, k + 1, 3⟩ := fun tail => by rw [readL, if_pos h1, if_neg h2]
        have ho : o = false := by simpa using h2
        exact here (by rw [ho]; rfl) (fun _ => .inr trivial) (by rw [hst]; exact three_ne) (by rw [hst])
    · by_cases h2 : (o && e) = true
      · have hst : ∀ tail, readL (x :: tail) k s o e = ⟨noScr, k, 3⟩ := fun tail => by rw [readL, if_neg h1, if_pos h2]
        exact .inl ⟨by rw [hst], h2⟩
      · have h2' : (o && e) = false := by simpa using h2
        by_cases h3 : isVoid x = true
        · have hst : ∀ tail, readL (x :: tail) k s o e = readL tail (k + 1) s false e := fun tail => by rw [readL, if_neg h1, if_neg h2, if_pos h3]
          rw [hst] at h hl ⊢
          exact .inr (shift _ _ _ rfl hst h hl)
        · by_cases h4 : isTextL x = true
          · have hst : ∀ tail, readL (x :: tail) k s o e = readL tail (k + 1) ⟨s.texts ++ [⟨#[]⟩], s.steps⟩ true true := fun tail => by rw [readL, if_neg h1, if_neg h2, if_neg h3, if_pos h4]
            have hone : (readL [x] k s o e).err ≠ 0 := by rw [hst]; exact three_ne
            by_cases h5 : (readL r (k + 1) ⟨s.texts ++ [⟨#[]⟩], s.steps⟩ true true).line = k + 1
            · exact here h2' (fun _ => .inr trivial) hone (by rw [hst]; exact h5)
            · rw [hst] at h hl
              rcases readL_err r (k + 1) _ true true h hl with ⟨h6, _⟩ | ⟨m, h6, h7, s', o', e', h8, h9, h10⟩
              · exact absurd h6 h5
              · refine .inr ⟨m + 1, by rw [hst, h6]; omega, by rw [List.length_cons]; omega, s', o', e', h8, fun tail => ?_, fun y hy => ?_⟩
                · rw [List.take_succ_cons, List.cons_append, hst, h9, show k + 1 + m = k + (m + 1) by omega]
                · rw [List.getElem?_cons_succ] at hy
                  have := h10 y hy
                  rwa [show k + 1 + m = k + (m + 1) by omega] at this
          · cases hw : stepW (wordsB x) with
            | error c =>
              have hst : ∀ tail, readL (x :: tail) k s o e = ⟨noScr, k + 1, c⟩ := fun tail => by rw [readL, if_neg h1, if_neg h2, if_neg h3, if_neg h4, hw]
              exact here h2' (fun _ => .inr trivial) (by rw [hst]; exact stepW_err hw) (by rw [hst])
            | ok y =>
              have hst : ∀ tail, readL (x :: tail) k s o e = readL tail (k + 1) ⟨s.texts, s.steps ++ [y]⟩ false e := fun tail => by rw [readL, if_neg h1, if_neg h2, if_neg h3, if_neg h4, hw]
              rw [hst] at h hl ⊢
              exact .inr (shift _ _ _ rfl hst h hl)
/-- What the law Lines says, in plain words. -/
theorem lines_plain {t : List UInt8} (he : (parseS t).err ≠ 0) (hl : (parseS t).line ≠ 0) :
    ∃ m, (parseS t).line = m + 1 ∧ m < (partsB 10 t).length ∧ ((parseS (Lib.join ((partsB 10 t).take m) [10])).err = 0 ∨ (parseS (Lib.join ((partsB 10 t).take m) [10])).err = 1 ∨ (parseS (Lib.join ((partsB 10 t).take m) [10])).err = 2) ∧
      (parseS (Lib.join ((partsB 10 t).take (m + 1)) [10])).err ≠ 0 := by
  have hfree : ∀ n, ∀ l ∈ (partsB 10 t).take n, ∀ x ∈ l, x ≠ 10 := fun n l hl => parts_free 10 t l (List.mem_of_mem_take hl)
  rcases readL_err (partsB 10 t) 0 noScr false false he hl with ⟨_, h⟩ | ⟨m, h1, h2, s', o', e', h3, h4, h5⟩
  · cases h
  · refine ⟨m, by unfold parseS; rw [h1]; omega, h2, ?_, ?_⟩
    · cases m with
      | zero => exact .inl (by rw [List.take_zero, Lib.join_nil]; rfl)
      | succ m =>
        unfold parseS
        rw [parts_of_join _ (by intro h0; rw [List.take_eq_nil_iff] at h0; rcases h0 with h0 | h0; cases h0; exact parts_ne _ _ h0) (hfree _)]
        have h6 := h4 []
        rw [List.append_nil] at h6
        rw [h6, readL, if_neg (by rw [h3]; exact Bool.false_ne_true)]
        rcases check_err s' with h7 | h7 | h7
        · rw [if_pos h7]; exact .inl rfl
        · rw [if_neg (by rw [h7]; decide)]; exact .inr (.inl h7)
        · rw [if_neg (by rw [h7]; decide)]; exact .inr (.inr h7)
    · unfold parseS
      rw [parts_of_join _ (by intro h0; rw [List.take_eq_nil_iff] at h0; rcases h0 with h0 | h0; cases h0; exact parts_ne _ _ h0) (hfree _), List.take_add_one, List.getElem?_eq_getElem h2]
      show (readL (_ ++ [_]) _ _ _ _).err ≠ 0
      rw [h4]
      exact h5 _ (List.getElem?_eq_getElem h2)
theorem parse_ok_line {t : List UInt8} (h : (parseS t).err = 0) : (parseS t).line = 0 := readL_ok _ _ _ _ _ h
end ScrP
end Go.Proofs.YtldkfhimpkiigaaGreatDoor
