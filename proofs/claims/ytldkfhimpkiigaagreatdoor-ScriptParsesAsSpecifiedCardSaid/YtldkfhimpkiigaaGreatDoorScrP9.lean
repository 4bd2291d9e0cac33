/-
  Layer 46 (script): in plain words: what is read is valid; a printed script with doubled blanks and with remarks between its lines is read back.
-/
import Derived.Test.YtldkfhimpkiigaaGreatDoorScrP8
namespace Go.Proofs.YtldkfhimpkiigaaGreatDoor
namespace ScrP
open Go.Lib (count count_cons_eq count_cons_ne count_miss index index_ge replaceK replaceNum replace replaceAll)

/-- Each blank twice. -/
def dblB (l : List UInt8) : List UInt8 := l.flatMap fun c => if c = 32 then [32, 32] else [c]
theorem dbl_cons (b : UInt8) (l : List UInt8) (h : b ≠ 32) : dblB (b :: l) = b :: dblB l := by unfold dblB; rw [List.flatMap_cons, if_neg h]; rfl
theorem dbl_blank (l : List UInt8) : dblB (32 :: l) = 32 :: 32 :: dblB l := by unfold dblB; rw [List.flatMap_cons, if_pos rfl]; rfl
theorem repl_dbl : ∀ l : List UInt8, replaceK [32] [32, 32] (count l [32]) l = dblB l
  | [] => by rw [count_miss (by simp [index])]; rfl
  | b :: l => by
    have ih := repl_dbl l
    by_cases h : b = 32
    · subst h
      rw [count_cons_eq, Nat.add_comm, replaceK, index_same, if_neg (by decide)]
      show [] ++ [32, 32] ++ replaceK [32] [32, 32] (count l [32]) l = [32, 32] ++ dblB l
      rw [ih]
      rfl
    · rw [count_cons_ne b 32 l h]
      rw [dbl_cons b l h, ← ih]
      cases hk : count l [32] with
      | zero => rfl
      | succ k =>
        have hm : index l [32] ≠ -1 := fun e => by rw [count_miss e] at hk; cases hk
        have hge := index_ge l [32]
        obtain ⟨j, hj⟩ : ∃ j : Nat, index l [32] = j := ⟨(index l [32]).toNat, by omega⟩
        have hix : index (b :: l) [32] = ((j + 1 : Nat) : Int) := by rw [index_other l h, if_neg (fun e => hm (beq_iff_eq.1 e)), hj]; omega
        rw [replaceK, hix, if_neg (by rw [beq_iff_eq]; omega), replaceK, hj, if_neg (by rw [beq_iff_eq]; omega)]
        rfl
theorem dbl_all (l : List UInt8) : replaceAll l [32] [32, 32] = dblB l := by
  unfold replaceAll replace replaceNum
  rw [if_neg (by decide), if_pos (.inl (by decide))]
  exact repl_dbl l
theorem dbl_len (l : List UInt8) : (dblB l).length ≤ 2 * l.length := by
  unfold dblB
  induction l with
  | nil => exact Nat.zero_le _
  | cons a t ih =>
    rw [List.flatMap_cons, List.length_append, List.length_cons]
    have : (if a = 32 then [32, 32] else [a] : List UInt8).length ≤ 2 := by split <;> simp
    omega
/-- A line as the law turns it. -/
def keepB (l : List UInt8) : Bool := Lib.hasPrefix l [124] || decide (l = [116, 101, 120, 116])
def spaceL (l : List UInt8) : List UInt8 := if keepB l then l else [32] ++ dblB l ++ [32, 10, 35, 32] ++ l
def spaced (l : List UInt8) : List (List UInt8) := if keepB l then [l] else [32 :: (dblB l ++ [32]), 35 :: 32 :: l]
theorem dbl_free {l : List UInt8} (h : ∀ x ∈ l, x ≠ 10) : ∀ x ∈ dblB l, x ≠ 10 := by
  intro x hx
  obtain ⟨c, hc, hx⟩ := List.mem_flatMap.1 hx
  split at hx
  · simp only [List.mem_cons, List.not_mem_nil, or_false] at hx
    rcases hx with rfl | rfl <;> decide
  · rw [List.mem_singleton] at hx
    rw [hx]
    exact h c hc
theorem parts_space {l : List UInt8} (h : ∀ x ∈ l, x ≠ 10) : partsB 10 (spaceL l) = spaced l := by
  unfold spaceL spaced
  split
  · exact parts_none h
  · have e : [32] ++ dblB l ++ [32, 10, 35, 32] ++ l = (32 :: (dblB l ++ [32])) ++ 10 :: (35 :: 32 :: l) := by simp
    rw [e, parts_app, parts_none (l := 32 :: (dblB l ++ [32])), parts_none (l := 35 :: 32 :: l)]
    · rfl
    · intro x hx
      rcases List.mem_cons.1 hx with rfl | hx
      · decide
      · rcases List.mem_cons.1 hx with rfl | hx
        · decide
        · exact h x hx
    · intro x hx
      rcases List.mem_cons.1 hx with rfl | hx
      · decide
      · rcases List.mem_append.1 hx with hx | hx
        · exact dbl_free h x hx
        · rw [List.mem_singleton] at hx; rw [hx]; decide
theorem parts_spaces : ∀ (ls : List (List UInt8)), ls ≠ [] → (∀ l ∈ ls, ∀ x ∈ l, x ≠ 10) → partsB 10 (Lib.join (ls.map spaceL) [10]) = ls.flatMap spaced
  | [], h, _ => absurd rfl h
  | [l], _, h => by rw [List.map_cons, List.map_nil, Lib.join_one, List.flatMap_cons, List.flatMap_nil, List.append_nil]; exact parts_space (h l (List.mem_cons_self ..))
  | a :: b :: r, _, h => by
    have e : Lib.join ((a :: b :: r).map spaceL) [10] = spaceL a ++ 10 :: Lib.join ((b :: r).map spaceL) [10] := by simp [Lib.join, List.intercalate]
    rw [e, parts_app, parts_space (h a (List.mem_cons_self ..)), parts_spaces (b :: r) (List.cons_ne_nil _ _) (fun l hl => h l (List.mem_cons_of_mem _ hl))]
    rfl
/-! Words with doubled blanks. -/
theorem words_dbl0 : ∀ l : List UInt8, ∃ h t t', partsB 32 l = h :: t ∧ partsB 32 (dblB l) = h :: t' ∧ (t.filter fun w => !w.isEmpty) = t'.filter fun w => !w.isEmpty
  | [] => ⟨[], [], [], rfl, rfl, rfl⟩
  | c :: l => by
    obtain ⟨h, t, t', h1, h2, h3⟩ := words_dbl0 l
    by_cases hc : c = 32
    · subst hc
      refine ⟨[], h :: t, [] :: h :: t', by rw [partsB_hit, h1], by rw [dbl_blank, partsB_hit, partsB_hit, h2], ?_⟩
      rw [List.filter_cons, List.filter_cons, h3]
      simp only [List.isEmpty_nil, Bool.not_true, Bool.false_eq_true, if_false]
      rw [List.filter_cons]
    · refine ⟨c :: h, t, t', ?_, ?_, h3⟩
      · obtain ⟨a, r, e1, e2⟩ := partsB_miss l hc
        rw [h1] at e1
        cases e1
        exact e2
      · rw [dbl_cons c l hc]
        obtain ⟨a, r, e1, e2⟩ := partsB_miss (dblB l) hc
        rw [h2] at e1
        cases e1
        exact e2
theorem words_dbl (l : List UInt8) : wordsB (32 :: (dblB l ++ [32])) = wordsB l := by
  obtain ⟨h, t, t', h1, h2, h3⟩ := words_dbl0 l
  unfold wordsB
  have e : dblB l ++ [32] = dblB l ++ 32 :: [] := rfl
  rw [partsB_hit, e, parts_app, h1, h2]
  show (([] :: (h :: t' ++ [[]])).filter fun w => !w.isEmpty) = _
  rw [List.filter_cons, List.cons_append, List.filter_cons, List.filter_append, ← h3, List.filter_cons (x := h)]
  simp
/-- A step's line, spaced, and its remark. -/
theorem readL_spaced {x : Stp} (hx : stepOk x = true) (rest : List (List UInt8)) (k : Nat) (s : Scr) (o e : Bool) (ho : (o && e) = false) :
    readL (spaced (stepL x) ++ rest) k s o e = readL rest (k + 2) ⟨s.texts, s.steps ++ [x]⟩ false e := by
  have h := stpB_of hx
  obtain ⟨_, h1, h2, h3⟩ := name_tab h.kind
  have hw := stepL_words h
  obtain ⟨c, r, hc⟩ : ∃ c r, (nameN x.kind).data.toList = c :: r := by
    cases e : (nameN x.kind).data.toList with
    | nil => exact absurd e h1
    | cons c r => exact ⟨c, r, rfl⟩
  have hcc := h2 c (by rw [hc]; exact List.mem_cons_self ..)
  have hst : ∃ r2, stepL x = c :: r2 := ⟨_, by unfold stepL; rw [hc]; rfl⟩
  obtain ⟨r2, hr2⟩ := hst
  have hk : keepB (stepL x) = false := by
    unfold keepB
    rw [Bool.or_eq_false_iff]
    refine ⟨?_, decide_eq_false fun e0 => ?_⟩
    · rw [hr2]
      show ([124] : List UInt8).isPrefixOf (c :: r2) = false
      simp only [List.isPrefixOf, Bool.and_true]
      rw [beq_eq_false_iff_ne]
      exact fun e => hcc.2.2.1 e.symm
    · rw [e0] at hw
      exact h3 (List.cons.inj (hw.symm.trans (by rfl : wordsB [116, 101, 120, 116] = [[116, 101, 120, 116]]))).1
  have hsp : spaced (stepL x) = [32 :: (dblB (stepL x) ++ [32]), 35 :: 32 :: stepL x] := by unfold spaced; rw [hk]; rfl
  rw [hsp]
  show readL (_ :: _ :: rest) k s o e = _
  have hbar : isBar (32 :: (dblB (stepL x) ++ [32])) = false := by unfold isBar; rfl
  have hvoid : isVoid (32 :: (dblB (stepL x) ++ [32])) = false := by
    unfold isVoid
    rw [words_dbl, hw]
    rfl
  have htext : isTextL (32 :: (dblB (stepL x) ++ [32])) = false := by
    unfold isTextL
    rw [words_dbl, hw, beq_eq_false_iff_ne]
    intro e
    exact h3 (List.cons.inj e).1
  rw [readL_step hbar ho hvoid htext, words_dbl, stepW_line hx]
  show readL (_ :: rest) (k + 1) _ false e = _
  rw [readL_void (by unfold isBar; rfl) (by rfl) (by unfold isVoid; rw [Bool.or_eq_true]; right; rfl)]
theorem spaced_texts : ∀ (ts : List ByteArray), (ts.flatMap fun t => [116, 101, 120, 116] :: (partsB 10 t.data.toList).map (124 :: ·)).flatMap spaced = ts.flatMap fun t => [116, 101, 120, 116] :: (partsB 10 t.data.toList).map (124 :: ·)
  | [] => rfl
  | t :: ts => by
    have bars : ∀ ls : List (List UInt8), (ls.map (124 :: ·)).flatMap spaced = ls.map (124 :: ·) := by
      intro ls
      induction ls with
      | nil => rfl
      | cons a ls ih =>
        rw [List.map_cons, List.flatMap_cons, ih]
        rfl
    rw [List.flatMap_cons, List.flatMap_append, spaced_texts ts, List.flatMap_cons, bars]
    rfl
theorem readL_spacedS : ∀ (xs : List Stp) (rest : List (List UInt8)) (k : Nat) (s : Scr) (o e : Bool), (∀ x ∈ xs, stepOk x = true) → (o && e) = false →
    ∃ k' o' e', (o' && e') = false ∧ readL ((xs.map stepL).flatMap spaced ++ rest) k s o e = readL rest k' ⟨s.texts, s.steps ++ xs⟩ o' e'
  | [], rest, k, s, o, e, _, ho => ⟨k, o, e, ho, by rw [List.append_nil]; rfl⟩
  | x :: xs, rest, k, s, o, e, h, ho => by
    obtain ⟨k', o', e', h1, h2⟩ := readL_spacedS xs rest (k + 2) ⟨s.texts, s.steps ++ [x]⟩ false e (fun y hy => h y (List.mem_cons_of_mem _ hy)) rfl
    refine ⟨k', o', e', h1, ?_⟩
    rw [List.map_cons, List.flatMap_cons, List.append_assoc, readL_spaced (h x (List.mem_cons_self ..)) _ k s o e ho, h2]
    simp
/-- A printed script, spaced, is read back. -/
theorem parse_spaced {s : Scr} (h : (checkS s).2 = 0) : parseS (Lib.join ((partsB 10 (printB s)).map spaceL) [10]) = ⟨s, 0, 0⟩ := by
  have ok := check_ok h
  unfold parseS
  rw [parts_spaces _ (parts_ne _ _) (fun l hl => parts_free 10 _ l hl)]
  have e := print_lines (s := s) (fun x hx => stpB_of (ok.stp x hx)) []
  rw [List.append_nil] at e
  rw [e, List.flatMap_append]
  unfold linesP
  rw [List.flatMap_append, spaced_texts, List.append_assoc]
  obtain ⟨k1, o1, e1, h1, h2⟩ := readL_texts s.texts ((s.steps.map stepL).flatMap spaced ++ (partsB 10 []).flatMap spaced) 0 noScr false false rfl
  obtain ⟨k2, o2, e2, h3, h4⟩ := readL_spacedS s.steps ((partsB 10 []).flatMap spaced) k1 ⟨noScr.texts ++ s.texts, noScr.steps⟩ o1 e1 ok.stp h1
  rw [h2, h4]
  show readL [[32, 32], [35, 32]] k2 ⟨s.texts, s.steps⟩ o2 e2 = _
  rw [readL_void (by decide) h3 (by decide), readL_void (by decide) rfl (by decide), readL, if_neg (by rw [Bool.false_and]; exact Bool.false_ne_true), if_pos h]
/-- What is read is valid; where it is not read, no script is told. -/
theorem readL_valid : ∀ (l : List (List UInt8)) (k : Nat) (s : Scr) (o e : Bool), ((readL l k s o e).err = 0 ∧ (checkS (readL l k s o e).scr).2 = 0) ∨ ((readL l k s o e).err ≠ 0 ∧ (readL l k s o e).scr = noScr)
  | [], k, s, o, e => by
    rw [readL]
    split
    · exact .inr ⟨three_ne, rfl⟩
    · split
      · rename_i h; exact .inl ⟨rfl, h⟩
      · rename_i h; exact .inr ⟨h, rfl⟩
  | x :: r, k, s, o, e => by
    rw [readL]
    split
    · split
      · exact readL_valid _ _ _ _ _
      · exact .inr ⟨three_ne, rfl⟩
    · split
      · exact .inr ⟨three_ne, rfl⟩
      · split
        · exact readL_valid _ _ _ _ _
        · split
          · exact readL_valid _ _ _ _ _
          · cases hw : stepW (wordsB x) with
            | error c => exact .inr ⟨stepW_err hw, rfl⟩
            | ok y => exact readL_valid _ _ _ _ _
end ScrP
end Go.Proofs.YtldkfhimpkiigaaGreatDoor
