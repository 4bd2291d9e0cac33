/-
  Layer 46 (script): what Parse reads of what Print prints (plain).
-/
import Derived.Test.YtldkfhimpkiigaaGreatDoorScrW12
import Derived.Test.YtldkfhimpkiigaaGreatDoorScrP5
namespace Go.Proofs.YtldkfhimpkiigaaGreatDoor
open ScrP

theorem parts_app (c : UInt8) : ∀ (a b : List UInt8), partsB c (a ++ c :: b) = partsB c a ++ partsB c b
  | [], b => by rw [List.nil_append, partsB_hit]; rfl
  | x :: a, b => by
    have ih := parts_app c a b
    by_cases h : x = c
    · subst h
      rw [List.cons_append, partsB_hit, partsB_hit, ih]
      rfl
    · obtain ⟨p, t, e1, e2⟩ := partsB_miss a h
      obtain ⟨p', t', e1', e2'⟩ := partsB_miss (a ++ c :: b) h
      rw [List.cons_append, e2, e2']
      rw [ih, e1, List.cons_append] at e1'
      injection e1' with h1 h2
      rw [← h1, ← h2]
      rfl
theorem parts_none {c : UInt8} : ∀ {l : List UInt8}, (∀ x ∈ l, x ≠ c) → partsB c l = [l]
  | [], _ => rfl
  | x :: l, h => by
    have ih := parts_none (l := l) (fun y hy => h y (List.mem_cons_of_mem _ hy))
    obtain ⟨p, t, e1, e2⟩ := partsB_miss l (h x (List.mem_cons_self ..))
    rw [ih] at e1
    injection e1 with h1 h2
    rw [e2, ← h1, ← h2]
theorem parts_join (c : UInt8) : ∀ (t a : List UInt8) (r : List (List UInt8)), partsB c t = a :: r → t = a ++ r.flatMap (c :: ·)
  | [], a, r, h => by
    injection h with h1 h2
    rw [← h1, ← h2]
    rfl
  | x :: t, a, r, h => by
    by_cases hx : x = c
    · subst hx
      rw [partsB_hit] at h
      injection h with h1 h2
      cases hp : partsB x t with
      | nil => exact absurd hp (partsB_ne x t)
      | cons p q =>
        rw [hp] at h2
        rw [← h1, ← h2, List.flatMap_cons, List.nil_append]
        have ih := parts_join x t p q hp
        rw [List.cons_append, ← ih]
    · obtain ⟨p, q, e1, e2⟩ := partsB_miss t hx
      rw [e2] at h
      injection h with h1 h2
      have ih := parts_join c t p q e1
      rw [← h1, ← h2, List.cons_append, ← ih]
theorem parts_bar : ∀ t : List UInt8, partsB 10 (124 :: barB t) = (partsB 10 t).map (124 :: ·)
  | [] => rfl
  | x :: t => by
    have ih := parts_bar t
    by_cases h : x = 10
    · subst h
      have e : barB (10 :: t) = 10 :: (124 :: barB t) := rfl
      rw [e, partsB_hit, List.map_cons]
      have := parts_app 10 [124] (124 :: barB t)
      rw [List.cons_append, List.nil_append] at this
      rw [this, ih]
      rfl
    · have e : barB (x :: t) = x :: barB t := by unfold barB; rw [List.flatMap_cons, if_neg h]; rfl
      obtain ⟨a, q, e1, e2⟩ := partsB_miss (c := 10) (barB t) (show (124 : UInt8) ≠ 10 by decide)
      obtain ⟨p, r, f1, f2⟩ := partsB_miss t h
      obtain ⟨a', q', g1, g2⟩ := partsB_miss (barB t) h
      obtain ⟨a2, q2, k1, k2⟩ := partsB_miss (c := 10) (x :: barB t) (show (124 : UInt8) ≠ 10 by decide)
      rw [e2, f1, List.map_cons] at ih
      rw [e1] at g1
      injection g1 with g3 g4
      rw [g2] at k1
      injection k1 with k3 k4
      injection ih with i1 i2
      injection i1 with _ i3
      rw [e, k2, f2, List.map_cons, ← k3, ← k4, ← g3, ← g4, i3, i2]
theorem barr_nil (u : ByteArray) : (⟨(u.data.toList ++ []).toArray⟩ : ByteArray) = u := by
  rw [List.append_nil]
theorem readL_bars : ∀ (ls rest : List (List UInt8)) (k : Nat) (ts : List ByteArray) (u : ByteArray) (st : List Stp),
    readL (ls.map (124 :: ·) ++ rest) k ⟨ts ++ [u], st⟩ true false = readL rest (k + ls.length) ⟨ts ++ [⟨(u.data.toList ++ ls.flatMap (10 :: ·)).toArray⟩], st⟩ true false
  | [], rest, k, ts, u, st => by
    show readL rest k _ _ _ = readL rest (k + 0) ⟨ts ++ [⟨(u.data.toList ++ []).toArray⟩], st⟩ true false
    rw [barr_nil, Nat.add_zero]
  | l :: ls, rest, k, ts, u, st => by
    rw [List.map_cons, List.cons_append, readL_bar (show isBar (124 :: l) = true from rfl)]
    show readL _ _ ⟨addLine (ts ++ [u]) false (124 :: l), st⟩ true false = _
    rw [addLine_app, readL_bars ls rest (k + 1) ts _ st, List.length_cons, Nat.add_assoc, Nat.add_comm 1]
    congr 4
    simp
theorem readL_textB (t : ByteArray) (rest : List (List UInt8)) (k : Nat) (s : Scr) (o e : Bool) (ho : (o && e) = false) :
    readL ([116, 101, 120, 116] :: ((partsB 10 t.data.toList).map (124 :: ·) ++ rest)) k s o e = readL rest (k + 1 + (partsB 10 t.data.toList).length) ⟨s.texts ++ [t], s.steps⟩ true false := by
  rw [readL_text (by decide) ho (by decide) (by decide)]
  cases hp : partsB 10 t.data.toList with
  | nil => exact absurd hp (partsB_ne _ _)
  | cons a r =>
    have hj := parts_join 10 _ a r hp
    rw [List.map_cons, List.cons_append, readL_bar (show isBar (124 :: a) = true from rfl)]
    show readL _ _ ⟨addLine (s.texts ++ [⟨#[]⟩]) true (124 :: a), s.steps⟩ true false = _
    rw [addLine_app, readL_bars r rest _ s.texts _ s.steps, List.length_cons, Nat.add_assoc (k + 1), Nat.add_comm 1]
    congr 4
    simp
    exact ByteArray.ext (Array.ext' (by simpa using hj.symm))
/-- The words of a step's data. -/
def dataWs (t : ByteArray) : List (List UInt8) :=
  match t.data.toList with
  | [] => []
  | c :: r => if c = 64 then [64 :: r] else [61 :: hexB r]
def stepWs (x : Stp) : List (List UInt8) := x.args.map Lib.itoa ++ dataWs x.text
def stepL (x : Stp) : List UInt8 := (nameN x.kind).data.toList ++ (stepWs x).flatMap (32 :: ·)
theorem stepB_line (x : Stp) : stepB x = stepL x ++ [10] := by
  have h : dataB x.text = (dataWs x.text).flatMap (32 :: ·) := by
    unfold dataB dataWs
    cases x.text.data.toList with
    | nil => rfl
    | cons c r =>
      dsimp only
      split
      · rw [List.flatMap_cons]; simp
      · rw [List.flatMap_cons]; simp
  unfold stepB stepL stepWs
  rw [List.flatMap_append, h]
  unfold argsB
  rw [List.flatMap_map]
  simp only [List.append_assoc]
theorem words_line : ∀ (ws : List (List UInt8)) (n : List UInt8), n ≠ [] → (∀ x ∈ n, x ≠ 32) → (∀ w ∈ ws, w ≠ [] ∧ ∀ x ∈ w, x ≠ 32) → wordsB (n ++ ws.flatMap (32 :: ·)) = n :: ws
  | [], n, h0, hn, _ => by
    unfold wordsB
    rw [List.flatMap_nil, List.append_nil, parts_none hn]
    cases n with
    | nil => exact absurd rfl h0
    | cons a b => rfl
  | w :: ws, n, h0, hn, hw => by
    have ih := words_line ws w (hw w (List.mem_cons_self ..)).1 (hw w (List.mem_cons_self ..)).2 (fun v hv => hw v (List.mem_cons_of_mem _ hv))
    unfold wordsB at ih ⊢
    rw [List.flatMap_cons, List.cons_append, parts_app, List.filter_append, ih, parts_none hn]
    cases n with
    | nil => exact absurd rfl h0
    | cons a b => rfl
theorem hexD_val {n : Nat} (h : n < 16) : unD (hexD n) = some n ∧ hexD n ≠ 32 ∧ hexD n ≠ 10 := by
  have ht : ((List.range 16).all fun j => decide (unD (hexD j) = some j ∧ hexD j ≠ 32 ∧ hexD j ≠ 10)) = true := by kernel_rfl
  exact of_decide_eq_true (List.all_eq_true.1 ht n (List.mem_range.2 h))
theorem unhex_hex : ∀ l : List UInt8, unhex (hexB l) = some l
  | [] => rfl
  | c :: l => by
    have ih := unhex_hex l
    have h1 := hexD_val (n := c.toNat / 16) (by have := c.toNat_lt; omega)
    have h2 := hexD_val (n := c.toNat % 16) (by omega)
    show unhex (hexD (c.toNat / 16) :: hexD (c.toNat % 16) :: hexB l) = _
    rw [unhex, h1.1, h2.1, ih]
    show some (UInt8.ofNat (16 * (c.toNat / 16) + c.toNat % 16) :: l) = _
    rw [Nat.div_add_mod, UInt8.ofNat_toNat]
theorem hexB_no : ∀ (l : List UInt8) (x : UInt8), x ∈ hexB l → x ≠ 32 ∧ x ≠ 10 := fun l x hx => by
  unfold hexB at hx
  obtain ⟨c, _, hc⟩ := List.mem_flatMap.1 hx
  simp only [List.mem_cons, List.not_mem_nil, or_false] at hc
  rcases hc with rfl | rfl
  · exact (hexD_val (by have := c.toNat_lt; omega)).2
  · exact (hexD_val (by omega)).2
theorem isD_no {x : UInt8} (h : isD x = true) : x ≠ 32 ∧ x ≠ 10 := by
  have := isD_iff.1 h
  constructor
  · rintro rfl; exact absurd this.1 (by decide)
  · rintro rfl; exact absurd this.1 (by decide)
theorem itoa_arg {a : Int} (h : 0 ≤ a ∧ a ≤ 2199023255552) : decOk (Lib.itoa a) = true ∧ ((decVal (Lib.itoa a) : Nat) : Int) = a := by
  obtain ⟨u, rfl⟩ : ∃ u : Nat, a = (u : Int) := ⟨a.toNat, by omega⟩
  rw [Lib.itoa_nonneg]
  exact ⟨decOk_num (by omega), by rw [dec_val]⟩
theorem decOk_word {w : List UInt8} (h : decOk w = true) : w ≠ [] ∧ ∀ x ∈ w, x ≠ 32 ∧ x ≠ 10 := by
  obtain ⟨⟨h1, _⟩, h2, _⟩ := decOk_iff.1 h
  refine ⟨fun e => ?_, fun x hx => isD_no (List.all_eq_true.1 h2 x hx)⟩
  rw [e] at h1
  exact absurd h1 (by decide)
theorem data_words {t : ByteArray} (h : (dataR t).err = 0) : ∀ w ∈ dataWs t, (w ≠ [] ∧ ∀ x ∈ w, x ≠ 32 ∧ x ≠ 10) := by
  intro w hw
  unfold dataWs at hw
  unfold dataR at h
  cases hl : t.data.toList with
  | nil => rw [hl] at hw; cases hw
  | cons c r =>
    rw [hl] at hw h
    dsimp only at hw h
    by_cases hc : c = 64
    · rw [if_pos hc] at hw
      rw [List.mem_singleton.1 hw]
      refine ⟨List.cons_ne_nil _ _, fun x hx => ?_⟩
      rcases List.mem_cons.1 hx with rfl | hx
      · decide
      · subst hc
        split at h
        · rename_i h1; exact absurd h1.1 (by decide)
        · split at h
          · rename_i h1; exact (decOk_word h1.2.1).2 x hx
          · cases h
    · rw [if_neg hc] at hw
      rw [List.mem_singleton.1 hw]
      refine ⟨List.cons_ne_nil _ _, fun x hx => ?_⟩
      rcases List.mem_cons.1 hx with rfl | hx
      · decide
      · exact hexB_no r x hx
theorem name_tab {z : Int} (h : isKindB z = true) : kindN (nameN z) = z.toNat ∧ (nameN z).data.toList ≠ [] ∧ (∀ x ∈ (nameN z).data.toList, x ≠ 32 ∧ x ≠ 10 ∧ x ≠ 124 ∧ x ≠ 35) ∧ (nameN z).data.toList ≠ [116, 101, 120, 116] := by
  have hz : 1 ≤ z ∧ z < 24 := by unfold isKindB at h; simpa using h
  obtain ⟨k, rfl⟩ : ∃ k : Nat, z = (k : Int) := ⟨z.toNat, by omega⟩
  have ht : ((List.range 24).all fun j => decide (j = 0) || (decide (kindN (nameN (j : Int)) = j) && !(nameN (j : Int)).data.toList.isEmpty && ((nameN (j : Int)).data.toList.all fun x => decide (x ≠ 32 ∧ x ≠ 10 ∧ x ≠ 124 ∧ x ≠ 35)) && decide ((nameN (j : Int)).data.toList ≠ [116, 101, 120, 116]))) = true := by kernel_rfl
  have h1 := List.all_eq_true.1 ht k (List.mem_range.2 (by omega))
  have h0 : decide (k = 0) = false := decide_eq_false (by omega)
  rw [h0, Bool.false_or] at h1
  simp only [Bool.and_eq_true, decide_eq_true_eq, Bool.not_eq_true'] at h1
  obtain ⟨⟨⟨a, b⟩, c⟩, d⟩ := h1
  refine ⟨by rw [a]; rfl, (fun e => by rw [e] at b; cases b), fun x hx => of_decide_eq_true (List.all_eq_true.1 c x hx), d⟩
theorem stepWs_no {x : Stp} (h : StpB x) : ∀ w ∈ stepWs x, w ≠ [] ∧ ∀ c ∈ w, c ≠ 32 ∧ c ≠ 10 := by
  intro w hw
  unfold stepWs at hw
  rcases List.mem_append.1 hw with hw | hw
  · obtain ⟨a, ha, rfl⟩ := List.mem_map.1 hw
    exact decOk_word (itoa_arg (h.args a ha)).1
  · exact data_words h.data w hw
theorem rest_stepWs {x : Stp} (h : StpB x) : restB (stepWs x) = some (x.args, x.text.data.toList) := by
  have hall : (x.args.map Lib.itoa).all decOk = true := by
    rw [List.all_eq_true]
    intro w hw
    obtain ⟨a, ha, rfl⟩ := List.mem_map.1 hw
    exact (itoa_arg (h.args a ha)).1
  have hval : (x.args.map Lib.itoa).map (fun w => (decVal w : Int)) = x.args := by
    rw [List.map_map]
    conv => rhs; rw [← List.map_id x.args]
    exact List.map_congr_left fun a ha => (itoa_arg (h.args a ha)).2
  have hrest : ∀ tx, restOf (x.args.map Lib.itoa) tx = some (x.args, tx) := fun tx => by unfold restOf; rw [if_pos hall, hval]
  unfold stepWs dataWs
  cases hl : x.text.data.toList with
  | nil =>
    dsimp only
    rw [List.append_nil]
    cases hla : (x.args.map Lib.itoa).getLast? with
    | none => rw [List.getLast?_eq_none_iff.1 hla] at hrest ⊢; exact hrest []
    | some u =>
      have hu : isLit u = false := by
        cases e : isLit u with
        | false => rfl
        | true =>
          have h1 := isLit_dec e
          rw [List.all_eq_true.1 hall u (List.mem_of_getLast? hla)] at h1
          cases h1
      rw [rest_plain hla hu]
      exact hrest []
  | cons c r =>
    dsimp only
    by_cases hc : c = 64
    · rw [if_pos hc, rest_some (u := 64 :: r) (t := c :: r) (by rw [List.getLast?_concat]) rfl (by subst hc; rfl), List.dropLast_concat]
      exact hrest _
    · have hc2 : c = 61 := by
        have he := h.data
        unfold dataR at he
        rw [hl] at he
        dsimp only at he
        split at he
        · rename_i h1; exact h1.1
        · split at he
          · rename_i h1; exact absurd h1.1 hc
          · cases he
      rw [if_neg hc, rest_some (u := 61 :: hexB r) (t := c :: r) (by rw [List.getLast?_concat]) rfl (by subst hc2; unfold literalB; rw [if_neg (by rw [List.head?_cons]; decide), List.tail_cons, unhex_hex]; rfl), List.dropLast_concat]
      exact hrest _
theorem stepL_words {x : Stp} (h : StpB x) : wordsB (stepL x) = (nameN x.kind).data.toList :: stepWs x := by
  obtain ⟨_, h1, h2, _⟩ := name_tab h.kind
  exact words_line _ _ h1 (fun c hc => (h2 c hc).1) (fun w hw => ⟨(stepWs_no h w hw).1, fun c hc => ((stepWs_no h w hw).2 c hc).1⟩)
theorem stepW_line {x : Stp} (hx : stepOk x = true) : stepW (wordsB (stepL x)) = .ok x := by
  have h := stpB_of hx
  obtain ⟨h0, _⟩ := name_tab h.kind
  have hz : 1 ≤ x.kind ∧ x.kind < 24 := by have := h.kind; unfold isKindB at this; simpa using this
  rw [stepL_words h]
  unfold stepW
  dsimp only
  rw [show (⟨(nameN x.kind).data.toList.toArray⟩ : ByteArray) = nameN x.kind by simp, h0, if_neg (by omega), rest_stepWs h]
  dsimp only
  have e : (⟨((x.kind.toNat : Nat) : Int), x.args, ⟨x.text.data.toList.toArray⟩⟩ : Stp) = x := by
    rw [show ((x.kind.toNat : Nat) : Int) = x.kind by omega, show (⟨x.text.data.toList.toArray⟩ : ByteArray) = x.text by simp]
  rw [e, if_pos hx]
end Go.Proofs.YtldkfhimpkiigaaGreatDoor
