/-
  Layer 46 (script): a printed script is read back (plain).
-/
import Derived.Test.YtldkfhimpkiigaaGreatDoorScrP6
import Derived.Test.YtldkfhimpkiigaaGreatDoorScrW16
namespace Go.Proofs.YtldkfhimpkiigaaGreatDoor
open ScrP

/-- The lines of a printed script, without what stands behind the last line's end. -/
def linesP (s : Scr) : List (List UInt8) := s.texts.flatMap (fun t => [116, 101, 120, 116] :: (partsB 10 t.data.toList).map (124 :: ·)) ++ s.steps.map stepL
theorem textB_lines (t : ByteArray) (b : List UInt8) : partsB 10 (textB t ++ b) = ([116, 101, 120, 116] :: (partsB 10 t.data.toList).map (124 :: ·)) ++ partsB 10 b := by
  rw [textB_bar, ← parts_bar]
  have e : [116, 101, 120, 116, 10, 124] ++ barB t.data.toList ++ [10] ++ b = [116, 101, 120, 116] ++ 10 :: ((124 :: barB t.data.toList) ++ 10 :: b) := by simp
  rw [e, parts_app, parts_app]
  rfl
theorem stepL_no {x : Stp} (h : StpB x) : ∀ c ∈ stepL x, c ≠ 10 := by
  obtain ⟨_, _, h2, _⟩ := name_tab h.kind
  intro c hc
  unfold stepL at hc
  rcases List.mem_append.1 hc with hc | hc
  · exact (h2 c hc).2.1
  · obtain ⟨w, hw, hcw⟩ := List.mem_flatMap.1 hc
    rcases List.mem_cons.1 hcw with rfl | hcw
    · decide
    · exact ((stepWs_no h w hw).2 c hcw).2
theorem stepB_lines {x : Stp} (h : StpB x) (b : List UInt8) : partsB 10 (stepB x ++ b) = stepL x :: partsB 10 b := by
  rw [stepB_line, List.append_assoc]
  show partsB 10 (stepL x ++ 10 :: b) = _
  rw [parts_app, parts_none (stepL_no h)]
  rfl
theorem texts_lines : ∀ (ts : List ByteArray) (b : List UInt8), partsB 10 (ts.flatMap textB ++ b) = ts.flatMap (fun t => [116, 101, 120, 116] :: (partsB 10 t.data.toList).map (124 :: ·)) ++ partsB 10 b
  | [], _ => rfl
  | t :: ts, b => by rw [List.flatMap_cons, List.append_assoc, textB_lines, texts_lines ts b, List.flatMap_cons, List.append_assoc]
theorem steps_lines : ∀ (xs : List Stp) (b : List UInt8), (∀ x ∈ xs, StpB x) → partsB 10 (xs.flatMap stepB ++ b) = xs.map stepL ++ partsB 10 b
  | [], _, _ => rfl
  | x :: xs, b, h => by rw [List.flatMap_cons, List.append_assoc, stepB_lines (h x (List.mem_cons_self ..)), steps_lines xs b (fun y hy => h y (List.mem_cons_of_mem _ hy))]; rfl
theorem print_lines {s : Scr} (h : ∀ x ∈ s.steps, StpB x) (b : List UInt8) : partsB 10 (printB s ++ b) = linesP s ++ partsB 10 b := by
  unfold printB linesP
  rw [List.append_assoc, texts_lines, steps_lines _ _ h, List.append_assoc]
theorem readL_stepL {x : Stp} (hx : stepOk x = true) (rest : List (List UInt8)) (k : Nat) (s : Scr) (o e : Bool) (ho : (o && e) = false) : readL (stepL x :: rest) k s o e = readL rest (k + 1) ⟨s.texts, s.steps ++ [x]⟩ false e := by
  have h := stpB_of hx
  obtain ⟨_, h1, h2, h3⟩ := name_tab h.kind
  have hw := stepL_words h
  obtain ⟨c, r, hc⟩ : ∃ c r, (nameN x.kind).data.toList = c :: r := by
    cases e : (nameN x.kind).data.toList with
    | nil => exact absurd e h1
    | cons c r => exact ⟨c, r, rfl⟩
  have hhd : (stepL x).head? = some c := by unfold stepL; rw [hc]; rfl
  have hcc := h2 c (by rw [hc]; exact List.mem_cons_self ..)
  have hbar : isBar (stepL x) = false := by unfold isBar; rw [hhd, beq_eq_false_iff_ne]; exact fun e => hcc.2.2.1 (Option.some.inj e)
  have hvoid : isVoid (stepL x) = false := by
    unfold isVoid
    rw [hhd, hw, List.isEmpty_cons, Bool.false_or, beq_eq_false_iff_ne]
    exact fun e => hcc.2.2.2 (Option.some.inj e)
  have htext : isTextL (stepL x) = false := by
    unfold isTextL
    rw [hw, beq_eq_false_iff_ne]
    intro e
    exact h3 (List.cons.inj e).1
  rw [readL_step hbar ho hvoid htext, stepW_line hx]
theorem readL_texts : ∀ (ts : List ByteArray) (rest : List (List UInt8)) (k : Nat) (s : Scr) (o e : Bool), (o && e) = false →
    ∃ k' o' e', (o' && e') = false ∧ readL (ts.flatMap (fun t => [116, 101, 120, 116] :: (partsB 10 t.data.toList).map (124 :: ·)) ++ rest) k s o e = readL rest k' ⟨s.texts ++ ts, s.steps⟩ o' e'
  | [], rest, k, s, o, e, ho => ⟨k, o, e, ho, by rw [List.append_nil]; rfl⟩
  | t :: ts, rest, k, s, o, e, ho => by
    obtain ⟨k', o', e', h1, h2⟩ := readL_texts ts rest (k + 1 + (partsB 10 t.data.toList).length) ⟨s.texts ++ [t], s.steps⟩ true false rfl
    refine ⟨k', o', e', h1, ?_⟩
    rw [List.flatMap_cons, List.append_assoc, List.cons_append, readL_textB t _ k s o e ho, h2]
    simp
theorem readL_steps : ∀ (xs : List Stp) (rest : List (List UInt8)) (k : Nat) (s : Scr) (o e : Bool), (∀ x ∈ xs, stepOk x = true) → (o && e) = false →
    ∃ k' o' e', (o' && e') = false ∧ readL (xs.map stepL ++ rest) k s o e = readL rest k' ⟨s.texts, s.steps ++ xs⟩ o' e'
  | [], rest, k, s, o, e, _, ho => ⟨k, o, e, ho, by rw [List.append_nil]; rfl⟩
  | x :: xs, rest, k, s, o, e, h, ho => by
    obtain ⟨k', o', e', h1, h2⟩ := readL_steps xs rest (k + 1) ⟨s.texts, s.steps ++ [x]⟩ false e (fun y hy => h y (List.mem_cons_of_mem _ hy)) rfl
    refine ⟨k', o', e', h1, ?_⟩
    rw [List.map_cons, List.cons_append, readL_stepL (h x (List.mem_cons_self ..)) _ k s o e ho, h2]
    simp
theorem readL_print {s : Scr} (hs : ∀ x ∈ s.steps, stepOk x = true) (rest : List (List UInt8)) (k : Nat) (s0 : Scr) (o e : Bool) (ho : (o && e) = false) :
    ∃ k' o' e', (o' && e') = false ∧ readL (linesP s ++ rest) k s0 o e = readL rest k' ⟨s0.texts ++ s.texts, s0.steps ++ s.steps⟩ o' e' := by
  unfold linesP
  obtain ⟨k1, o1, e1, h1, h2⟩ := readL_texts s.texts (s.steps.map stepL ++ rest) k s0 o e ho
  obtain ⟨k2, o2, e2, h3, h4⟩ := readL_steps s.steps rest k1 ⟨s0.texts ++ s.texts, s0.steps⟩ o1 e1 hs h1
  exact ⟨k2, o2, e2, h3, by rw [List.append_assoc, h2, h4]⟩
theorem readL_end {s : Scr} {k : Nat} {o e : Bool} (ho : (o && e) = false) : readL [[]] k s o e = if (checkS s).2 = 0 then ⟨s, 0, 0⟩ else ⟨noScr, 0, (checkS s).2⟩ := by
  rw [readL_void (by decide) ho (by decide), readL]
  rfl
/-- What two printed scripts, one behind the other, are read as. -/
theorem parse_two {a b : Scr} (ha : ∀ x ∈ a.steps, stepOk x = true) (hb : ∀ x ∈ b.steps, stepOk x = true) : parseS (printB a ++ printB b) = if (checkS ⟨a.texts ++ b.texts, a.steps ++ b.steps⟩).2 = 0 then ⟨⟨a.texts ++ b.texts, a.steps ++ b.steps⟩, 0, 0⟩ else ⟨noScr, 0, (checkS ⟨a.texts ++ b.texts, a.steps ++ b.steps⟩).2⟩ := by
  unfold parseS
  have e := print_lines (s := b) (fun x hx => stpB_of (hb x hx)) []
  rw [List.append_nil] at e
  rw [print_lines (fun x hx => stpB_of (ha x hx)), e]
  obtain ⟨k1, o1, e1, h1, h2⟩ := readL_print ha (linesP b ++ partsB 10 []) 0 noScr false false rfl
  obtain ⟨k2, o2, e2, h3, h4⟩ := readL_print hb (partsB 10 []) k1 ⟨noScr.texts ++ a.texts, noScr.steps ++ a.steps⟩ o1 e1 h1
  rw [h2, h4]
  exact readL_end h3
/-- A printed script is read back. -/
theorem parse_print {s : Scr} (h : (checkS s).2 = 0) : parseS (printB s) = ⟨s, 0, 0⟩ := by
  have h1 := parse_two (a := s) (b := noScr) (check_ok h).stp (fun x hx => by cases hx)
  rw [show printB s ++ printB noScr = printB s from List.append_nil _, show (⟨s.texts ++ noScr.texts, s.steps ++ noScr.steps⟩ : Scr) = s by show (⟨s.texts ++ [], s.steps ++ []⟩ : Scr) = s; rw [List.append_nil, List.append_nil], if_pos h] at h1
  exact h1
end Go.Proofs.YtldkfhimpkiigaaGreatDoor
