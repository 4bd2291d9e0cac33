/-
  Layer 12 (parse): a policy that was read can be printed (plain).
  Layer 12 (parse): the walk of the statement that a printed policy that was read is read and printed again.
  Layer 12 (parse): other blanks between the tokens (plain).
  Layer 12 (parse): the walk of the statement that other blanks change nothing.
  Layer 12 (parse): what is read up to a token does not hang on what follows (plain).
  Layer 12 (parse): the tokens of a text that is cut behind a token; errors at tokens (plain).
  Layer 12 (parse): the walk of the statement that errors lie at tokens.
-/
import Derived.Test.YtemhiiignamkjaaDoorMB
import Derived.Test.YtemhiiignamkjaaDoorParL1
import Derived.Test.YtemhiiignamkjaaDoorLexR6
import Derived.Laws.Concat
namespace Go.Proofs.YtemhiiignamkjaaDoor
open Go.RowKit LexP ParP

def capN : Nat := 1099511627776
theorem er_list_one {m : List Tok} {t : Tok} (h : m.map er = [er t]) : ∃ u, m = [u] ∧ u.kind = t.kind ∧ u.text = t.text := by
  match m, h with
  | [u], h =>
    simp only [List.map_cons, List.map_nil, List.cons.injEq, and_true] at h
    unfold er at h
    injection h with h1 h2 h3 h4
    exact ⟨u, rfl, h1, h2⟩
  | [], h => cases h
  | _ :: _ :: _, h => simp at h
theorem isWordB_tok {t : Tok} (hg : LexP.Good t) (hk : t.kind = 1) (hs : t.text.size ≤ 4000) : isWordB t.text = true := by
  have hl : Lay t.text.data.toList [t] := by
    have := Lay.cons [] t [] [] gap_nil hg soft_nil3 (.nil [] gap_nil)
    rwa [List.nil_append, List.append_nil] at this
  obtain ⟨m, hm, he⟩ := lay_tokens t.text hl hs
  obtain ⟨u, rfl, h1, h2⟩ := er_list_one he
  unfold isWordB
  rw [hm]
  show (decide (u.kind = 1) && (u.text.toList == t.text.toList)) = true
  rw [h1, hk, h2]
  simp
/-- The numbers of what was read. -/
structure Fine (st : St) : Prop where
  typs : ∀ x ∈ st.typs, x.name.kind = 1 ∧ x.flags < 128 ∧ x.life ≤ capN
  ruls : ∀ x ∈ st.ruls, 1 ≤ x.kind ∧ x.kind ≤ 5
  quos : ∀ x ∈ st.quos, 1 ≤ x.cmd ∧ x.cmd ≤ 27 ∧ x.count ≤ capN ∧ x.delay ≤ capN ∧ x.valid ≤ capN ∧ x.uses ≤ capN
theorem typLoop_fine : ∀ (N : Nat) (l : List Tok) (fl lf : Nat) (lb : Bool) (r : List Tok) (x : Nat × Nat), l.length ≤ N → typLoop l fl lf lb = .ok r x → (∀ t ∈ l, t.n ≤ capN) → fl < 128 → lf ≤ capN → x.1 < 128 ∧ x.2 ≤ capN := by
  intro N
  induction N with
  | zero =>
    intro l fl lf lb r x hl h
    have : l = [] := List.eq_nil_of_length_eq_zero (Nat.le_zero.1 hl)
    subst this
    rw [typLoop.eq_def] at h
    cases h
  | succ N ih =>
    intro l fl lf lb r x hl h ht h1 h2
    cases l with
    | nil => rw [typLoop.eq_def] at h; cases h
    | cons t r0 =>
      rw [typLoop.eq_def] at h
      dsimp only at h
      split at h
      · cases h; exact ⟨h1, h2⟩
      · split at h
        · cases r0 with
          | nil => cases h
          | cons u r2 =>
            dsimp only at h
            split at h
            · cases r2 with
              | nil => cases h
              | cons v r3 =>
                dsimp only at h
                split at h
                · exact ih _ _ _ _ _ _ (by simp at hl ⊢; omega) h (fun y hy => ht y (by simp [hy])) h1 (ht u (by simp))
                · cases h
            · cases h
        · split at h
          · next hc =>
            obtain ⟨k1, k2⟩ := Bool.and_eq_true_iff.1 hc
            have hf := (flag_or h1 (of_decide_eq_true k1) (by simpa using k2)).2
            cases r0 with
            | nil => cases h
            | cons v r2 =>
              dsimp only at h
              split at h
              · exact ih _ _ _ _ _ _ (by simp at hl ⊢; omega) h (fun y hy => ht y (by simp [hy])) hf h2
              · cases h
          · cases h
theorem take_in {p : Tok → Bool} {l r : List Tok} {t : Tok} (h : take p l = .ok r t) : t ∈ l ∧ p t = true ∧ ∀ x ∈ r, x ∈ l := by
  obtain ⟨rfl, hp⟩ := take_ok h
  exact ⟨List.mem_cons_self, hp, fun x hx => List.mem_cons_of_mem _ hx⟩
theorem opt_fine {s : ByteArray} {z : Nat} {l r : List Tok} {x : Nat} (h : opt s z l = .ok r x) (hl : ∀ t ∈ l, t.n ≤ capN) (hz : z ≤ capN) : x ≤ capN := by
  unfold opt at h
  split at h
  · obtain ⟨m1, y1, h1, h⟩ := bind_ok h
    obtain ⟨m2, y2, h2, h⟩ := bind_ok h
    cases h
    exact hl _ ((take_in h1).2.2 _ (take_in h2).1)
  · cases h
    exact hz
theorem command_le (s : ByteArray) : commandN s ≤ 27 := by
  unfold commandN
  split
  · omega
  · omega
theorem item_fine {r r2 : List Tok} {st st2 : St} {k : Nat} (h : item r st k = .ok r2 st2) (hk : k < 7) (hr : ∀ t ∈ r, t.n ≤ capN) (hf : Fine st) : Fine st2 ∧ ∀ t ∈ r2, t.n ≤ capN := by
  have hm : ∀ y ∈ r2, y ∈ r := by
    have ha : Among r ⟨[], [], []⟩ 0 := ⟨fun _ h => (by cases h), fun _ h => (by cases h), Nat.le_refl _, Nat.le_refl _, Nat.le_refl _⟩
    have h0 : ∃ st3, item r ⟨[], [], []⟩ k = .ok r2 st3 := by
      unfold item at h ⊢
      split
      · next e => rw [if_pos e] at h; obtain ⟨m, x, h1, h⟩ := bind_ok h; cases h; exact ⟨_, by rw [h1]; rfl⟩
      · next e =>
        rw [if_neg e] at h
        split
        · next e2 => rw [if_pos e2] at h; obtain ⟨m, x, h1, h⟩ := bind_ok h; cases h; exact ⟨_, by rw [h1]; rfl⟩
        · next e2 => rw [if_neg e2] at h; obtain ⟨m, x, h1, h⟩ := bind_ok h; cases h; exact ⟨_, by rw [h1]; rfl⟩
    obtain ⟨st3, h3⟩ := h0
    exact (item_among h3 (fun x hx => hx) ha).2
  refine ⟨?_, fun t ht => hr t (hm t ht)⟩
  unfold item at h
  split at h
  · obtain ⟨m, x, h1, h⟩ := bind_ok h
    cases h
    obtain ⟨m1, y1, g1, h1⟩ := bind_ok h1
    obtain ⟨m2, y2, g2, h1⟩ := bind_ok h1
    obtain ⟨m3, y3, g3, h1⟩ := bind_ok h1
    cases h1
    obtain ⟨w1, w2, w3⟩ := take_in g1
    obtain ⟨f1, f2⟩ := typLoop_fine _ _ _ _ _ _ _ (Nat.le_refl _) g3 (fun t ht => hr t (w3 _ ((take_in g2).2.2 _ ht))) (by decide) (Nat.zero_le _)
    refine ⟨fun t ht => ?_, hf.ruls, hf.quos⟩
    rcases List.mem_append.1 ht with ht | ht
    · exact hf.typs t ht
    · simp at ht
      subst ht
      exact ⟨by simpa [isWordT] using w2, f1, f2⟩
  · split at h
    · obtain ⟨m, x, h1, h⟩ := bind_ok h
      cases h
      obtain ⟨m1, y1, g1, h1⟩ := bind_ok h1
      obtain ⟨m2, y2, g2, h1⟩ := bind_ok h1
      obtain ⟨m3, y3, g3, h1⟩ := bind_ok h1
      obtain ⟨m4, y4, g4, h1⟩ := bind_ok h1
      obtain ⟨m5, y5, g5, h1⟩ := bind_ok h1
      obtain ⟨m6, y6, g6, h1⟩ := bind_ok h1
      obtain ⟨m7, y7, g7, h1⟩ := bind_ok h1
      cases h1
      have s1 := (take_in g1).2.2
      have s2 : ∀ t ∈ m2, t ∈ r := fun t ht => s1 _ ((take_in g2).2.2 _ ht)
      have s3 : ∀ t ∈ m3, t ∈ r := fun t ht => s2 _ (opt_mem g3 _ ht)
      have s4 : ∀ t ∈ m4, t ∈ r := fun t ht => s3 _ ((take_in g4).2.2 _ ht)
      have s5 : ∀ t ∈ m5, t ∈ r := fun t ht => s4 _ ((take_in g5).2.2 _ ht)
      refine ⟨hf.typs, hf.ruls, fun t ht => ?_⟩
      rcases List.mem_append.1 ht with ht | ht
      · exact hf.quos t ht
      · simp at ht
        subst ht
        refine ⟨?_, command_le _, hr _ (s1 _ (take_in g2).1), opt_fine g3 (fun t ht => hr t (s2 _ ht)) (Nat.zero_le _), hr _ (s4 _ (take_in g5).1), opt_fine g6 (fun t ht => hr t (s5 _ ht)) (by decide)⟩
        have := (take_in g1).2.1
        unfold isCommand at this
        exact of_decide_eq_true this
    · obtain ⟨m, x, h1, h⟩ := bind_ok h
      cases h
      obtain ⟨m1, y1, g1, h1⟩ := bind_ok h1
      obtain ⟨m2, y2, g2, h1⟩ := bind_ok h1
      obtain ⟨m3, y3, g3, h1⟩ := bind_ok h1
      obtain ⟨m4, y4, g4, h1⟩ := bind_ok h1
      cases h1
      refine ⟨hf.typs, fun t ht => ?_, hf.quos⟩
      rcases List.mem_append.1 ht with ht | ht
      · exact hf.ruls t ht
      · simp at ht
        subst ht
        dsimp only
        omega
theorem items_fine : ∀ (f : Nat) (l r : List Tok) (st st2 : St), items f l st = .ok r st2 → (∀ t ∈ l, t.n ≤ capN) → Fine st → Fine st2
  | 0, [], _, _, _, h, _, _ => by cases h
  | 0, _ :: _, _, _, _, h, _, _ => by cases h
  | f + 1, [], _, _, _, h, _, _ => by rw [items_end] at h; cases h
  | f + 1, t :: l, r, st, st2, h, hl, hf => by
    by_cases hc : isText wClose t = true
    · rw [items_close _ _ _ _ hc] at h
      cases h
      exact hf
    · rw [items_round _ _ _ _ (by simpa using hc)] at h
      split at h
      · next h7 =>
        obtain ⟨m, x, h1, h2⟩ := bind_ok h
        obtain ⟨h3, h4⟩ := item_fine h1 h7 (fun t ht => hl t (List.mem_cons_of_mem _ ht)) hf
        exact items_fine f m r x st2 h2 h4 h3
      · cases h
theorem policy_fine {l r : List Tok} {nm : Tok} {st : St} (h : policy l = .ok r (nm, st)) (hl : ∀ t ∈ l, t.n ≤ capN) : Fine st ∧ nm ∈ l ∧ nm.kind = 1 := by
  obtain ⟨m1, y1, h1, h⟩ := bind_ok h
  obtain ⟨m2, y2, h2, h⟩ := bind_ok h
  obtain ⟨m3, y3, h3, h⟩ := bind_ok h
  obtain ⟨m4, y4, h4, h⟩ := bind_ok h
  split at h
  · cases h
    obtain ⟨a1, a2, a3⟩ := take_in h1
    obtain ⟨b1, b2, b3⟩ := take_in h2
    obtain ⟨c1, c2, c3⟩ := take_in h3
    exact ⟨items_fine _ _ _ _ _ h4 (fun t ht => hl t (a3 _ (b3 _ (c3 _ ht)))) ⟨fun _ h => (by cases h), fun _ h => (by cases h), fun _ h => (by cases h)⟩, a3 _ b1, by simpa [isWordT] using b2⟩
  · cases h
theorem typIdx_not {b : List PTyp} {s : ByteArray} (h : ¬ typIdx b s < b.length) : s ∉ b.map fun x => x.name.text := by
  intro hm
  obtain ⟨x, hx, rfl⟩ := List.mem_map.1 hm
  exact h (List.findIdx_lt_length.2 ⟨x, hx, text_eq_iff.2 rfl⟩)
theorem typsOk_read : ∀ (l b : List PTyp), twice b l = [] → (∀ x ∈ l, LexP.Good x.name ∧ x.name.text.size ≤ 4000 ∧ x.name.kind = 1 ∧ x.flags < 128 ∧ x.life ≤ capN) → typsOk (b.map fun x => x.name.text) (l.map PTyp.typ) = true
  | [], _, _, _ => rfl
  | x :: l, b, h, hx => by
    unfold twice at h
    obtain ⟨h1, h2⟩ := List.append_eq_nil_iff.1 h
    have hn : ¬ typIdx b x.name.text < b.length := fun e => by rw [if_pos e] at h1; cases h1
    obtain ⟨g1, g2, g3, g4, g5⟩ := hx x (by simp)
    unfold capN at g5
    have ih := typsOk_read l (b ++ [x]) h2 fun y hy => hx y (by simp [hy])
    rw [List.map_append] at ih
    rw [List.map_cons, typsOk, Bool.and_eq_true]
    refine ⟨?_, ih⟩
    unfold typOk
    have m1 : memB x.name.text (b.map fun x => x.name.text) = false := by
      unfold memB
      rw [List.any_eq_false]
      intro y hy e
      exact typIdx_not hn (of_decide_eq_true e ▸ hy)
    have e1 : isWordB x.typ.name = true := isWordB_tok g1 g3 g2
    have e2 : memB x.typ.name (b.map fun x => x.name.text) = false := m1
    rw [e1, e2]
    have e3 : withinB 127 [x.typ.flags] = true := withinB_iff.2 fun y hy => by
      rw [List.mem_singleton.1 hy]
      show 0 ≤ (x.flags : Int) ∧ (x.flags : Int) ≤ 127
      omega
    have e4 : withinB 1099511627776 [x.typ.life] = true := withinB_iff.2 fun y hy => by
      rw [List.mem_singleton.1 hy]
      show 0 ≤ (x.life : Int) ∧ (x.life : Int) ≤ 1099511627776
      omega
    rw [e3, e4]
    rfl
theorem word_some {c : Nat} (h1 : 1 ≤ c) (h2 : c ≤ 27) : ((wordN (c : Int)).toList == []) = false := by
  have h : ((List.range 27).all fun j => !((wordN ((j + 1 : Nat) : Int)).toList == [])) = true := by kernel_rfl
  have h3 := List.all_eq_true.1 h (c - 1) (List.mem_range.2 (by omega))
  rw [show c - 1 + 1 = c by omega] at h3
  simpa using h3
theorem parse_ok {s : ByteArray} (h : (parse s).err = 0) : ∃ l nm st, tokens s = .ok l ∧ policy l = .ok [] (nm, st) ∧ wrongs st = [] ∧ (parse s).pol = ⟨nm.text, st.typs.map PTyp.typ, st.ruls.map (PRul.rul st.typs), st.quos.map PQuo.quo⟩ := by
  unfold parse at h ⊢
  cases ht : tokens s with
  | err a e =>
    rw [ht] at h
    exact absurd h (tokens_errs ht)
  | ok l =>
    rw [ht] at h
    dsimp only at h ⊢
    cases hp : policy l with
    | bad r =>
      rw [hp] at h
      cases r <;> cases h
    | ok r x =>
      obtain ⟨nm, st⟩ := x
      rw [hp] at h
      dsimp only at h ⊢
      have hr : r = [] := by
        obtain ⟨m1, y1, h1, h⟩ := bind_ok hp
        obtain ⟨m2, y2, h2, h⟩ := bind_ok h
        obtain ⟨m3, y3, h3, h⟩ := bind_ok h
        obtain ⟨m4, y4, h4, h⟩ := bind_ok h
        split at h
        · cases h; rfl
        · cases h
      cases hw : wrongs st with
      | cons a b =>
        rw [hw] at h
        cases h
      | nil =>
        subst hr
        exact ⟨l, nm, st, rfl, hp, hw, rfl⟩
/-- A policy that was read can be printed. -/
theorem parsed_ok {s : ByteArray} (h : (parse s).err = 0) : printableB (parse s).pol = true ∧ PolOk (parse s).pol := by
  obtain ⟨l, nm, st, ht, hp, hw, e⟩ := parse_ok h
  obtain ⟨f1, f2, f3⟩ := tokens_facts ht
  have hg := good_of_chain (tokens_chain s l ht).2
  have hcap : ∀ t ∈ l, t.n ≤ capN := fun t ht => by have := (hg t ht).val; unfold capN; omega
  obtain ⟨hF, hn1, hn2⟩ := policy_fine hp hcap
  have hA := policy_among hp
  unfold wrongs at hw
  obtain ⟨w1, w2⟩ := List.append_eq_nil_iff.1 hw
  rw [e]
  have hty := typsOk_read st.typs [] w1 fun x hx => ⟨hg _ (hA.typs x hx), (f3 _ (hA.typs x hx)).1, hF.typs x hx⟩
  have hmiss : ∀ r ∈ st.ruls, typIdx st.typs r.a.text < st.typs.length ∧ typIdx st.typs r.b.text < st.typs.length := fun r hr => by
    have h0 := List.flatMap_eq_nil_iff.1 w2 r hr
    unfold missing at h0
    obtain ⟨h1, h2⟩ := List.append_eq_nil_iff.1 h0
    exact ⟨Classical.byContradiction fun c => (by rw [if_neg c] at h1; cases h1), Classical.byContradiction fun c => (by rw [if_neg c] at h2; cases h2)⟩
  have hnt := hA.nt
  refine ⟨?_, ?_⟩
  · unfold printableB
    simp only [Bool.and_eq_true]
    refine ⟨⟨⟨isWordB_tok (hg _ hn1) hn2 (f3 _ hn1).1, hty⟩, ?_⟩, ?_⟩
    · rw [List.all_eq_true]
      intro x hx
      obtain ⟨r, hr, rfl⟩ := List.mem_map.1 hx
      obtain ⟨k1, k2⟩ := hF.ruls r hr
      obtain ⟨i1, i2⟩ := hmiss r hr
      unfold rulOk
      rw [Bool.and_eq_true]
      refine ⟨withinB_iff.2 fun y hy => ?_, withinB_iff.2 fun y hy => ?_⟩
      · rw [List.mem_singleton.1 hy]
        show 0 ≤ wrap64 ((r.kind : Int) - 1) ∧ wrap64 ((r.kind : Int) - 1) ≤ 4
        rw [wrap64]
        omega
      · rw [List.length_map]
        have hy : y = (PRul.rul st.typs r).a ∨ y = (PRul.rul st.typs r).b := by simpa using hy
        have ea : (PRul.rul st.typs r).a = (typIdx st.typs r.a.text : Int) := rfl
        have eb : (PRul.rul st.typs r).b = (typIdx st.typs r.b.text : Int) := rfl
        rcases hy with rfl | rfl <;> omega
    · rw [List.all_eq_true]
      intro x hx
      obtain ⟨q, hq, rfl⟩ := List.mem_map.1 hx
      obtain ⟨k1, k2, k3, k4, k5, k6⟩ := hF.quos q hq
      unfold capN at k3 k4 k5 k6
      unfold quoOk
      rw [Bool.and_eq_true]
      refine ⟨?_, withinB_iff.2 fun y hy => ?_⟩
      · have := word_some k1 k2
        show (!((wordN (q.cmd : Int)).toList == [])) = true
        rw [this]
        rfl
      · have hy : y = q.quo.count ∨ y = q.quo.delay ∨ y = q.quo.valid ∨ y = q.quo.uses := by simpa using hy
        have ea : q.quo.count = (q.count : Int) ∧ q.quo.delay = (q.delay : Int) ∧ q.quo.valid = (q.valid : Int) ∧ q.quo.uses = (q.uses : Int) := ⟨rfl, rfl, rfl, rfl⟩
        rcases hy with rfl | rfl | rfl | rfl <;> omega
  · refine ⟨?_, fun x hx => ?_, fun x hx => ?_, fun x hx => ?_, ?_, ?_, ?_⟩
    · have := (f3 _ hn1).1
      unfold maxLen
      exact Nat.le_trans this (by decide)
    · obtain ⟨t, htm, rfl⟩ := List.mem_map.1 hx
      obtain ⟨_, k2, k3⟩ := hF.typs t htm
      unfold capN at k3
      refine ⟨Nat.le_trans (f3 _ (hA.typs t htm)).1 (by unfold maxLen; decide), ?_, ?_⟩
      · show InI (t.flags : Int)
        unfold InI
        omega
      · show InI (t.life : Int)
        unfold InI
        omega
    · obtain ⟨r, hr, rfl⟩ := List.mem_map.1 hx
      obtain ⟨k1, k2⟩ := hF.ruls r hr
      obtain ⟨i1, i2⟩ := hmiss r hr
      refine ⟨?_, ?_, ?_⟩
      · show InI (r.kind : Int)
        unfold InI
        omega
      · show InI (typIdx st.typs r.a.text : Int)
        unfold InI
        omega
      · show InI (typIdx st.typs r.b.text : Int)
        unfold InI
        omega
    · obtain ⟨q, hq, rfl⟩ := List.mem_map.1 hx
      obtain ⟨k1, k2, k3, k4, k5, k6⟩ := hF.quos q hq
      unfold capN at k3 k4 k5 k6
      refine ⟨?_, ?_, ?_, ?_, ?_⟩
      · show InI (q.cmd : Int); unfold InI; omega
      · show InI (q.count : Int); unfold InI; omega
      · show InI (q.delay : Int); unfold InI; omega
      · show InI (q.valid : Int); unfold InI; omega
      · show InI (q.uses : Int); unfold InI; omega
    · dsimp only
      rw [List.length_map]
      omega
    · have := hA.nr
      dsimp only
      rw [List.length_map]
      omega
    · have := hA.nq
      dsimp only
      rw [List.length_map]
      omega
end Go.Proofs.YtemhiiignamkjaaDoor
namespace Go.Proofs.YtemhiiignamkjaaDoor
open Go.RowKit LexP ParP
attribute [local go_sem] Oper.semAt_some

/-- A call of Parse, its policy under letters. -/
theorem Parse_box (s : ByteArray) (w W : World) (hs : s.size ≤ maxLen) (hW : Tabs w) (hB : Below w.heap.size w W) (o : Out) (ho : parse s = o) : Calls Tryd.prog 10 #[.string s] W fun e w' =>
    ∃ nm At T ct Ar R cr Aq Q cq, e = .returned (.tuple #[.agg #[.string nm, .slice At T ct, .slice Ar R cr, .slice Aq Q cq], .int .i64 o.pos, .int .i64 o.err]) ∧
      PolAt w' w'.heap.size (.agg #[.string nm, .slice At T ct, .slice Ar R cr, .slice Aq Q cq]) o.pol ∧ Below W.heap.size W w' := by
  refine (Parse_at s W hs (hW.below hB) o ho).mono ?_
  rintro e w' ⟨At, ct, Ar, cr, Aq, cq, rfl, h1, h2⟩
  exact ⟨_, _, _, _, _, _, _, _, _, _, rfl, h1, h2⟩
theorem printP_lim {p : Pol} (h : printableB p = true) (h2 : (printP p).2 ≠ 0) : (printP p).1 = ⟨#[]⟩ ∧ (printP p).2 = 2 := by
  unfold printP at h2 ⊢
  rw [if_pos h] at h2 ⊢
  split
  · exact ⟨rfl, rfl⟩
  · next c => rw [if_neg c] at h2; exact absurd rfl h2
set_option maxRecDepth 100000 in
set_option maxHeartbeats 12800000 in
theorem law_canon (s : ByteArray) (w : World) (hs : s.size ≤ maxLen) (hW : Tabs w) (hpow : PowAt w) :
    Calls Tryd.prog 6 #[.string s] w fun e w' => e = .returned (.bool true) ∧ Below w.heap.size w w' := by
  have HW := Lib.hid hW
  have HP := Lib.hid hpow
  have HS := Lib.hid (fun W (h : Below w.heap.size w W) => sanity_any W (hW.below h) (hpow.below h))
  have hsH := Lib.hid hs
  by_cases hbig : 4000 < s.size
  · have d1 : decide (4000 < s.size) = true := decide_eq_true hbig
    have d2 : decide ((4000 : Int) < (s.size : Int)) = true := decide_eq_true (by omega)
    clear hs hW hpow hbig
    go_enter Tryd.func6, Tryd.ntmps6
    go_wp2_with fail
    refine (HS.out w (Below.refl _ _)).mono ?_
    rintro e w1 ⟨rfl, hB1⟩
    have B1 := Lib.hid hB1
    clear hB1
    go_wp2_with fail
    go_ret
    exact ⟨rfl, B1.out⟩
  · have d1 : decide (4000 < s.size) = false := decide_eq_false hbig
    have d2 : decide ((4000 : Int) < (s.size : Int)) = false := decide_eq_false (by omega)
    obtain ⟨o, ho⟩ : ∃ o, parse s = o := ⟨_, rfl⟩
    have HPA := Lib.hid (fun W (h : Below w.heap.size w W) => Parse_box s w W hs hW h o ho)
    have hok : Hid (o.err = 0 → printableB o.pol = true ∧ PolOk o.pol) := fun h => by
      rw [← ho] at h ⊢
      exact parsed_ok h
    clear hs hW hpow hbig ho
    obtain ⟨p, ps, er⟩ := o
    dsimp only at hok
    go_enter Tryd.func6, Tryd.ntmps6
    go_wp2_with fail
    refine (HPA.out w (Below.refl _ _)).mono ?_
    rintro e w1 ⟨nm, At, T, ct, Ar, R, cr, Aq, Q, cq, rfl, hp1, hB1⟩
    have P1 := Lib.hid hp1
    have B1 := Lib.hid hB1
    clear hp1 hB1 HPA
    go_upto_region 4 with fail
    refine world_is (P := fun W => Code.wp _ _ _ _ W) (fun W2 hW2 => ?_)
    have X2 : Hid (BoxAt w W2 w1.heap.size p nm At T ct Ar R cr Aq Q cq) := by
      have hB : Below w1.heap.size w1 W2 := by rw [← hW2]; exact (Below.refl _ _).alloc (Nat.le_refl _) _
      exact ⟨B1.out.trans (hB.mono B1.out.size), by rw [← hW2]; exact Blk.new _ _ _, (P1.out.below hB).mono hB.size⟩
    obtain ⟨g, hg⟩ : ∃ g, w1.heap.size = g := ⟨_, rfl⟩
    rw [hg] at X2 ⊢
    clear hW2 hg P1 B1
    by_cases he : er = 0
    · subst he
      obtain ⟨hpr, hOK⟩ := hok.out rfl
      have hOK := Lib.hid hOK
      have c0 := X2.out.box.cell 0
      have c1 := X2.out.box.cell 1
      have c2 := X2.out.box.cell 2
      have c3 := X2.out.box.cell 3
      have hprH := Lib.hid hpr
      clear hpr hok
      go_wp2_with fail
      refine (Print_any p _ W2 X2.out.pol hOK.out (HW.out.below X2.out.bel) (HP.out.below X2.out.bel)).mono ?_
      rintro e w3 ⟨rfl, hB3⟩
      have X3 := Lib.hid (X2.out.below hB3)
      clear hB3 X2 c0 c1 c2 c3
      by_cases he : (printP p).2 = 0
      · obtain ⟨h1, h2, h3⟩ := printP_ok he
        obtain ⟨J, hJ⟩ : ∃ J, (printP p).1 = J := ⟨_, rfl⟩
        have hJl : J.data.toList = printL p := by rw [← hJ, h3]
        have hJs : J.size ≤ 4000 := by rw [← blen, hJl]; exact h2
        obtain ⟨r1, r2⟩ := round_trip hOK.out h1 hJl hJs
        have ha : parse J = ⟨p, (parse J).pos, 0⟩ := out_is r1 r2
        obtain ⟨a, hax⟩ : ∃ a, (parse J).pos = a := ⟨_, rfl⟩
        rw [hax] at ha
        have HPA := Lib.hid (fun W (h : Below w.heap.size w W) => Parse_box J w W (by unfold maxLen; omega) HW.out h _ ha)
        have hPP : printP p = (J, 0) := Prod.ext hJ he
        have hPPH := Lib.hid hPP
        rw [hPP]
        clear h1 h2 h3 hJ hJl hJs r1 r2 ha hax he hPP
        go_wp2_with fail
        refine (HPA.out w3 X3.out.bel).mono ?_
        rintro e w4 ⟨nm2, At2, T2, ct2, Ar2, R2, cr2, Aq2, Q2, cq2, rfl, hp4, hB4⟩
        have X4 := Lib.hid (X3.out.below hB4)
        have P4 := Lib.hid hp4
        clear hB4 hp4 X3 HPA
        go_upto_region 10 with fail
        refine world_is (P := fun W => Code.wp _ _ _ _ W) (fun W5 hW5 => ?_)
        have hB5 : Below w4.heap.size w4 W5 := by rw [← hW5]; exact (Below.refl _ _).alloc (Nat.le_refl _) _
        have X5 := Lib.hid (X4.out.below hB5)
        have Y5 : Hid (BoxAt w W5 w4.heap.size p nm2 At2 T2 ct2 Ar2 R2 cr2 Aq2 Q2 cq2) := ⟨X5.out.bel, by rw [← hW5]; exact Blk.new _ _ _, (P4.out.below hB5).mono hB5.size⟩
        obtain ⟨k, hk⟩ : ∃ k, w4.heap.size = k := ⟨_, rfl⟩
        rw [hk] at Y5 ⊢
        clear hW5 hB5 X4 P4 hk
        have e0 := Y5.out.box.cell 0
        have e1 := Y5.out.box.cell 1
        have e2 := Y5.out.box.cell 2
        have e3 := Y5.out.box.cell 3
        go_wp2_with fail
        refine (Print_any p _ W5 Y5.out.pol hOK.out (HW.out.below Y5.out.bel) (HP.out.below Y5.out.bel)).mono ?_
        rintro e w6 ⟨rfl, hB6⟩
        rw [hPPH.out]
        have X6 := Lib.hid (X5.out.below hB6)
        have Y6 := Lib.hid (Y5.out.below hB6)
        clear hB6 X5 Y5 e0 e1 e2 e3
        go_wp2_with fail
        refine (HS.out w6 X6.out.bel).mono ?_
        rintro e w7 ⟨rfl, hB7⟩
        have X7 := Lib.hid (X6.out.below hB7)
        have Y7 := Lib.hid (Y6.out.below hB7)
        clear hB7 X6 Y6
        have c0 := X7.out.box.cell 0
        have c1 := X7.out.box.cell 1
        have c2 := X7.out.box.cell 2
        have c3 := X7.out.box.cell 3
        have e0 := Y7.out.box.cell 0
        have e1 := Y7.out.box.cell 1
        have e2 := Y7.out.box.cell 2
        have e3 := Y7.out.box.cell 3
        have HSM := Lib.hid (same_any p _ _ w7 X7.out.pol Y7.out.pol hOK.out)
        go_wp2_with fail
        refine HSM.out.mono ?_
        rintro e w8 ⟨rfl, hB8⟩
        have X8 := Lib.hid (X7.out.below hB8)
        clear hB8
        go_wp2_with fail
        go_ret
        exact ⟨rfl, X8.out.bel⟩
      · obtain ⟨h1, h2⟩ := printP_lim hprH.out he
        rw [h1, h2]
        clear h1 h2 he
        go_wp2_with fail
        refine (HS.out w3 X3.out.bel).mono ?_
        rintro e w4 ⟨rfl, hB4⟩
        have X4 := Lib.hid (X3.out.below hB4)
        clear hB4 X3
        go_wp2_with fail
        go_ret
        exact ⟨rfl, X4.out.bel⟩
    · have t0 : (er != 0) = true := by rw [bne_iff_ne]; exact he
      clear hok he
      go_wp2_with fail
      refine (HS.out W2 X2.out.bel).mono ?_
      rintro e w3 ⟨rfl, hB3⟩
      have X3 := Lib.hid (X2.out.below hB3)
      clear hB3 X2
      go_wp2_with fail
      go_ret
      exact ⟨rfl, X3.out.bel⟩
end Go.Proofs.YtemhiiignamkjaaDoor
namespace Go.Proofs.YtemhiiignamkjaaDoor
open Go.RowKit LexP ParP

/-- The bytes between tokens, by a number. -/
def gapB (k : Nat) : ByteArray := if k % 3 = 0 then ⟨#[32]⟩ else if k % 3 = 1 then ⟨#[10, 9]⟩ else ⟨#[35, 59, 10]⟩
def spacedL (k : Nat) (l : List Tok) : List UInt8 := l.flatMap fun t => t.text.data.toList ++ (gapB k).data.toList
theorem gap_comment : Gap [35, 59, 10] := fun x => by
  show skipB false (35 :: 59 :: 10 :: x) = 3 + skipB false x
  simp [skipB, isBlank]
  omega
theorem gapB_gap (k : Nat) : Gap (gapB k).data.toList ∧ Hd (gapB k).data.toList := by
  unfold gapB
  split
  · exact ⟨gap_blank fun c hc => by rw [List.mem_singleton.1 hc]; rfl, 32, [], rfl, s32⟩
  · split
    · refine ⟨gap_blank fun c hc => ?_, 10, [9], rfl, s10⟩
      have hc : c = 10 ∨ c = 9 := by simpa using hc
      rcases hc with rfl | rfl <;> rfl
    · exact ⟨gap_comment, 35, [59, 10], rfl, .inr (.inr (.inr (.inl rfl)))⟩
theorem spaced_lay (k : Nat) (l : List Tok) (hg : ∀ t ∈ l, LexP.Good t) : Lay (spacedL k l) l := by
  obtain ⟨g1, g2⟩ := gapB_gap k
  have h := pg_flat (f := fun t : Tok => t.text.data.toList ++ (gapB k).data.toList) (g := fun t => [t]) l fun t ht => pc_pg (us := []) (pc_tok (hg t ht)) (fun r m hl => lay_gap g1 hl) g2
  have h2 := pg_lay h
  have e : l.flatMap (fun t => [t]) = l := by
    induction l with
    | nil => rfl
    | cons a l ih => rw [List.flatMap_cons, ih (fun t ht => hg t (by simp [ht])) (pg_flat l fun t ht => pc_pg (us := []) (pc_tok (hg t (by simp [ht]))) (fun r m hl => lay_gap g1 hl) g2) (pg_lay (pg_flat l fun t ht => pc_pg (us := []) (pc_tok (hg t (by simp [ht]))) (fun r m hl => lay_gap g1 hl) g2))]; rfl
  rwa [e] at h2
/-- The same policy and the same error. -/
theorem space_same {s J : ByteArray} {l : List Tok} (k : Nat) (h : tokens s = .ok l) (hJ : J.data.toList = spacedL k l) (hs : J.size ≤ 4000) : (parse J).pol = (parse s).pol ∧ (parse J).err = (parse s).err := by
  have hg := good_of_chain (tokens_chain s l h).2
  obtain ⟨m, hm, he⟩ := lay_tokens J (hJ ▸ spaced_lay k l hg) hs
  obtain ⟨a1, a2⟩ := parse_pe hm
  obtain ⟨b1, b2⟩ := parse_pe h
  rw [a1, a2, b1, b2, pe_same he]
  exact ⟨rfl, rfl⟩
theorem parse_pol_no {s : ByteArray} (h : (parse s).err ≠ 0) : (parse s).pol = noPol := by
  unfold parse at h ⊢
  cases ht : tokens s with
  | err a e => rfl
  | ok l =>
    rw [ht] at h
    dsimp only at h ⊢
    cases hp : policy l with
    | bad r => cases r <;> rfl
    | ok r x =>
      rw [hp] at h
      dsimp only at h ⊢
      cases hw : least (wrongs x.2) with
      | some a => rfl
      | none => rw [hw] at h; exact absurd rfl h
theorem parse_polOk (s : ByteArray) : PolOk (parse s).pol := by
  by_cases h : (parse s).err = 0
  · exact (parsed_ok h).2
  · rw [parse_pol_no h]
    exact ⟨by unfold noPol maxLen; decide, fun t ht => (by cases ht), fun t ht => (by cases ht), fun t ht => (by cases ht), by decide, by decide, by decide⟩
end Go.Proofs.YtemhiiignamkjaaDoor
namespace Go.Proofs.YtemhiiignamkjaaDoor
open Go.RowKit LexP ParP
attribute [local go_sem] Oper.semAt_some

theorem spacedL_snoc {k : Nat} {l : List Tok} {i : Nat} {t : Tok} (h : l[i]? = some t) : spacedL k (l.take (i + 1)) = spacedL k (l.take i) ++ (t.text.data.toList ++ (gapB k).data.toList) := flat_snoc _ h
theorem app_data (a b : ByteArray) : (a ++ b).data.toList = a.data.toList ++ b.data.toList := by rw [ByteArray.data_append, Array.toList_append]
theorem gapB_size (k : Nat) : (gapB k).size ≤ 3 := by
  unfold gapB
  split
  · decide
  · split <;> decide
set_option maxRecDepth 100000 in
set_option maxHeartbeats 12800000 in
theorem law_space (s : ByteArray) (a : UInt8) (w : World) (hs : s.size ≤ maxLen) (hW : Tabs w) (hpow : PowAt w) :
    Calls Tryd.prog 7 #[.string s, .int .u8 (a.toNat : Int)] w fun e w' => e = .returned (.bool true) ∧ Below w.heap.size w w' := by
  have HW := Lib.hid hW
  have HS := Lib.hid (fun W (h : Below w.heap.size w W) => sanity_any W (hW.below h) (hpow.below h))
  have hsH := Lib.hid hs
  obtain ⟨k, hk⟩ : ∃ k, a.toNat = k := ⟨_, rfl⟩
  have hk256 : k < 256 := by rw [← hk]; exact a.toNat_lt
  rw [hk]
  clear hk
  by_cases hbig : 2000 < s.size
  · have d1 : decide (2000 < s.size) = true := decide_eq_true hbig
    have d2 : decide ((2000 : Int) < (s.size : Int)) = true := decide_eq_true (by omega)
    clear hs hW hpow hbig
    go_enter Tryd.func7, Tryd.ntmps7
    go_wp2_with fail
    refine (HS.out w (Below.refl _ _)).mono ?_
    rintro e w1 ⟨rfl, hB1⟩
    have B1 := Lib.hid hB1
    clear hB1
    go_wp2_with fail
    go_ret
    exact ⟨rfl, B1.out⟩
  · have d1 : decide (2000 < s.size) = false := decide_eq_false hbig
    have d2 : decide ((2000 : Int) < (s.size : Int)) = false := decide_eq_false (by omega)
    have HR := Lib.hid (ref_Tokens_any s w (by omega))
    clear hs hW hpow hbig
    go_enter Tryd.func7, Tryd.ntmps7
    go_wp2_with fail
    refine HR.out.mono ?_
    rintro e w1 ⟨v, pos, err, rfl, hres, hB1⟩
    have B1 := Lib.hid hB1
    clear hB1 HR
    cases htk : tokens s with
    | err a0 e0 =>
      rw [htk] at hres
      obtain ⟨rfl, rfl, rfl⟩ := hres
      have t0 : (err != 0) = true := by rw [bne_iff_ne]; exact tokens_errs htk
      clear htk
      go_upto_region 4 with fail
      refine world_is (P := fun W => Code.wp _ _ _ _ W) (fun W2 hW2 => ?_)
      have X2 : Hid (Blk W2 w1.heap.size 44 #[.slice none 0 0, .int .i64 (a0 : Int), .int .i64 err]) := by unfold Hid; rw [← hW2]; exact Blk.new _ _ _
      have B2 : Hid (Below w.heap.size w W2) := by unfold Hid; rw [← hW2]; exact B1.out.alloc B1.out.size _
      obtain ⟨g, hg⟩ : ∃ g, w1.heap.size = g := ⟨_, rfl⟩
      rw [hg] at X2 ⊢
      have c2 := X2.out.cell 2
      clear hW2 hg B1
      go_wp2_with fail
      refine (HS.out W2 B2.out).mono ?_
      rintro e w3 ⟨rfl, hB3⟩
      have B3 : Hid (Below w.heap.size w w3) := B2.out.trans (hB3.mono B2.out.size)
      clear hB3
      go_wp2_with fail
      go_ret
      exact ⟨rfl, B3.out⟩
    | ok l =>
      rw [htk] at hres
      obtain ⟨rfl, rfl, hown⟩ := hres
      have hT1 := tkAt_own hown
      obtain ⟨A, c, rfl⟩ := own_slice hown
      have T1 := Lib.hid hT1
      obtain ⟨f1, f2, f3⟩ := tokens_facts htk
      have htkH := Lib.hid htk
      have f3H := Lib.hid f3
      obtain ⟨n, hn⟩ : ∃ n, l.length = n := ⟨_, rfl⟩
      have hnH := Lib.hid hn
      have hn4 : n ≤ 4000 := by omega
      rw [hn]
      clear htk hown hT1 hn f1 f2 f3
      go_upto_region 4 with fail
      refine world_is (P := fun W => Code.wp _ _ _ _ W) (fun W2 hW2 => ?_)
      have X2 : Hid (Blk W2 w1.heap.size 44 #[.slice A n c, .int .i64 0, .int .i64 0]) := by unfold Hid; rw [← hW2]; exact Blk.new _ _ _
      have B2 : Hid (Below w.heap.size w W2) := by unfold Hid; rw [← hW2]; exact B1.out.alloc B1.out.size _
      have T2 : Hid (TkAt W2 w1.heap.size (.slice A l.length c) l) := T1.out.below (by rw [← hW2]; exact (Below.refl _ _).alloc (Nat.le_refl _) _)
      obtain ⟨g, hg⟩ : ∃ g, w1.heap.size = g := ⟨_, rfl⟩
      rw [hg] at X2 T2 ⊢
      have c0 := X2.out.cell 0
      have c2 := X2.out.cell 2
      clear hW2 hg B1 T1
      go_wp2_with fail
      go_loopw [6, 7] (fun v6 v7 wr => ∃ (S : ByteArray) (i : Nat), v6 = .string S ∧ v7 = .int .i64 i ∧ i ≤ n ∧ Hid (S.data.toList = spacedL k (l.take i)) ∧ Hid (S.size ≤ 5000 * i) ∧ wr = W2) (fun _ v7 _ => n - (intOf v7).toNat)
      case atStart => exact ⟨_, 0, rfl, rfl, Nat.zero_le _, rfl, Nat.zero_le _, rfl⟩
      case round =>
      obtain ⟨S, i, rfl, rfl, hi, hSd, hSs, hwr⟩ := hrel
      rw [hwr]
      clear hwr
      by_cases hlt : i < n
      · have e1 : decide (i < n) = true := decide_eq_true hlt
        have e2 : decide ((i : Int) < (n : Int)) = true := decide_eq_true (by omega)
        obtain ⟨T, hT⟩ : ∃ T, l[i]? = some T := ⟨_, List.getElem?_eq_getElem (by rw [hnH.out]; exact hlt)⟩
        obtain ⟨tb, tf, rfl, _, _, k1, _, _⟩ := T2.out.at_ i T hT
        have q0 : (0 : Int) ≤ (i : Int) := by omega
        have q1 : (i : Int) < (n : Int) := by omega
        have q2 : (n : Int) ≤ 4000 := by omega
        have hltH := Lib.hid hlt
        have hTs := Lib.hid ((f3H.out T (List.mem_of_getElem? hT)).1)
        have hsn := Lib.hid (spacedL_snoc (k := k) hT)
        have hi4 : Hid (i < 4000) := by unfold Hid; omega
        obtain ⟨tx, htx⟩ : ∃ t, T.text = t := ⟨_, rfl⟩
        rw [htx] at k1 hTs hsn
        obtain ⟨U, hU⟩ : ∃ U, S ++ tx = U := ⟨_, rfl⟩
        have a1 : ∀ wx, (Op.stringOp .add S tx).run Tryd.prog wx = .ok (.string U) wx := fun wx => by
          rw [← hU]
          exact run_string_add_sum wx _ _ (by have := hSs.out; have := hTs.out; have := hi4.out; omega)
        obtain ⟨V, hV⟩ : ∃ V, U ++ gapB k = V := ⟨_, rfl⟩
        have hVd : Hid (V.data.toList = spacedL k (l.take (i + 1))) := by
          unfold Hid
          rw [← hV, ← hU, app_data, app_data, hSd.out, hsn.out, List.append_assoc]
        have hgs := gapB_size k
        have hUs : U.size = S.size + tx.size := by rw [← hU, ByteArray.size_append]
        have hVs : Hid (V.size ≤ 5000 * (i + 1)) := by
          unfold Hid
          rw [← hV, ByteArray.size_append]
          have := hSs.out
          have := hTs.out
          omega
        have a2 : ∀ wx, (Op.stringOp .add U (gapB k)).run Tryd.prog wx = .ok (.string V) wx := fun wx => by
          rw [← hV]
          exact run_string_add_sum wx _ _ (by have := hSs.out; have := hTs.out; have := hi4.out; omega)
        clear hT hlt htx hU hV hUs hgs
        by_cases hk0 : k % 3 = 0
        · have hg : gapB k = ⟨#[32]⟩ := by unfold gapB; rw [if_pos hk0]
          have m1 : (k : Int).tmod 3 = 0 := by rw [Int.tmod_eq_emod_of_nonneg (by omega)]; omega
          rw [hg] at a2
          clear hg hk0
          go_wp2_with fail
          go_roundw
          case rel => exact ⟨V, i + 1, rfl, by go_num, hltH.out, hVd.out, hVs.out, trivial⟩
          case measure => have := hltH.out; simp [intOf]; omega
        · by_cases hk1 : k % 3 = 1
          · have hg : gapB k = ⟨#[10, 9]⟩ := by unfold gapB; rw [if_neg hk0, if_pos hk1]
            have m1 : (k : Int).tmod 3 = 1 := by rw [Int.tmod_eq_emod_of_nonneg (by omega)]; omega
            rw [hg] at a2
            clear hg hk0 hk1
            go_wp2_with fail
            go_roundw
            case rel => exact ⟨V, i + 1, rfl, by go_num, hltH.out, hVd.out, hVs.out, trivial⟩
            case measure => have := hltH.out; simp [intOf]; omega
          · have hg : gapB k = ⟨#[35, 59, 10]⟩ := by unfold gapB; rw [if_neg hk0, if_neg hk1]
            have m1 : (k : Int).tmod 3 = 2 := by rw [Int.tmod_eq_emod_of_nonneg (by omega)]; omega
            rw [hg] at a2
            clear hg hk0 hk1
            go_wp2_with fail
            go_roundw
            case rel => exact ⟨V, i + 1, rfl, by go_num, hltH.out, hVd.out, hVs.out, trivial⟩
            case measure => have := hltH.out; simp [intOf]; omega
      · have e1 : decide (i < n) = false := decide_eq_false hlt
        have e2 : decide ((i : Int) < (n : Int)) = false := decide_eq_false (by omega)
        have hJd : Hid (S.data.toList = spacedL k l) := by
          unfold Hid
          rw [hSd.out, List.take_of_length_le (by rw [hnH.out]; omega)]
        clear hlt hSd hSs
        by_cases hbig : 4000 < S.size
        · have d3 : decide (4000 < S.size) = true := decide_eq_true hbig
          have d4 : decide ((4000 : Int) < (S.size : Int)) = true := decide_eq_true (by omega)
          clear hbig
          go_wp2_with fail
          refine (HS.out W2 B2.out).mono ?_
          rintro e w3 ⟨rfl, hB3⟩
          have B3 : Hid (Below w.heap.size w w3) := B2.out.trans (hB3.mono B2.out.size)
          clear hB3
          go_wp2_with fail
          go_ret
          exact ⟨rfl, B3.out⟩
        · have d3 : decide (4000 < S.size) = false := decide_eq_false hbig
          have d4 : decide ((4000 : Int) < (S.size : Int)) = false := decide_eq_false (by omega)
          obtain ⟨r1, r2⟩ := space_same k htkH.out hJd.out (by omega)
          obtain ⟨p, hp⟩ : ∃ p, (parse s).pol = p := ⟨_, rfl⟩
          obtain ⟨er, her⟩ : ∃ p, (parse s).err = p := ⟨_, rfl⟩
          obtain ⟨p1, hp1⟩ : ∃ p, (parse s).pos = p := ⟨_, rfl⟩
          obtain ⟨p2, hp2⟩ : ∃ p, (parse S).pos = p := ⟨_, rfl⟩
          have hOK : Hid (PolOk p) := by unfold Hid; rw [← hp]; exact parse_polOk s
          rw [hp] at r1
          rw [her] at r2
          have e3 : parse s = ⟨p, p1, er⟩ := by rw [← hp, ← hp1, ← her]
          have e4 : parse S = ⟨p, p2, er⟩ := by rw [← r1, ← hp2, ← r2]
          have HP1 := Lib.hid (fun W (h : Below w.heap.size w W) => Parse_box s w W hsH.out HW.out h _ e3)
          have HP2 := Lib.hid (fun W (h : Below w.heap.size w W) => Parse_box S w W (by unfold maxLen; omega) HW.out h _ e4)
          clear r1 r2 hp her hp1 hp2 e3 e4 hbig
          go_wp2_with fail
          refine (HP1.out W2 B2.out).mono ?_
          rintro e w3 ⟨nm, At, T, ct, Ar, R, cr, Aq, Q, cq, rfl, hp3, hB3⟩
          have P3 := Lib.hid hp3
          have B3 : Hid (Below w.heap.size w w3) := B2.out.trans (hB3.mono B2.out.size)
          clear hp3 hB3 HP1
          go_upto_region 20 with fail
          refine world_is (P := fun W => Code.wp _ _ _ _ W) (fun W4 hW4 => ?_)
          have X4 : Hid (BoxAt w W4 w3.heap.size p nm At T ct Ar R cr Aq Q cq) := by
            have hB : Below w3.heap.size w3 W4 := by rw [← hW4]; exact (Below.refl _ _).alloc (Nat.le_refl _) _
            exact ⟨B3.out.trans (hB.mono B3.out.size), by rw [← hW4]; exact Blk.new _ _ _, (P3.out.below hB).mono hB.size⟩
          obtain ⟨g1, hg1⟩ : ∃ g, w3.heap.size = g := ⟨_, rfl⟩
          rw [hg1] at X4 ⊢
          clear hW4 hg1 P3 B3
          go_wp2_with fail
          refine (HP2.out W4 X4.out.bel).mono ?_
          rintro e w5 ⟨nm2, At2, T2, ct2, Ar2, R2, cr2, Aq2, Q2, cq2, rfl, hp5, hB5⟩
          have X5 := Lib.hid (X4.out.below hB5)
          have P5 := Lib.hid hp5
          clear hB5 hp5 X4 HP2
          go_upto_region 21 with fail
          refine world_is (P := fun W => Code.wp _ _ _ _ W) (fun W6 hW6 => ?_)
          have hB6 : Below w5.heap.size w5 W6 := by rw [← hW6]; exact (Below.refl _ _).alloc (Nat.le_refl _) _
          have X6 := Lib.hid (X5.out.below hB6)
          have Y6 : Hid (BoxAt w W6 w5.heap.size p nm2 At2 T2 ct2 Ar2 R2 cr2 Aq2 Q2 cq2) := ⟨X6.out.bel, by rw [← hW6]; exact Blk.new _ _ _, (P5.out.below hB6).mono hB6.size⟩
          obtain ⟨g2, hg2⟩ : ∃ g, w5.heap.size = g := ⟨_, rfl⟩
          rw [hg2] at Y6 ⊢
          clear hW6 hB6 X5 P5 hg2
          go_wp2_with fail
          refine (HS.out W6 X6.out.bel).mono ?_
          rintro e w7 ⟨rfl, hB7⟩
          have X7 := Lib.hid (X6.out.below hB7)
          have Y7 := Lib.hid (Y6.out.below hB7)
          clear hB7 X6 Y6
          have c0 := X7.out.box.cell 0
          have c1 := X7.out.box.cell 1
          have c2 := X7.out.box.cell 2
          have c3 := X7.out.box.cell 3
          have e0 := Y7.out.box.cell 0
          have e1 := Y7.out.box.cell 1
          have e2 := Y7.out.box.cell 2
          have e3 := Y7.out.box.cell 3
          have HSM := Lib.hid (same_any p _ _ w7 X7.out.pol Y7.out.pol hOK.out)
          go_wp2_with fail
          refine HSM.out.mono ?_
          rintro e w8 ⟨rfl, hB8⟩
          have X8 := Lib.hid (X7.out.below hB8)
          clear hB8
          go_wp2_with fail
          go_ret
          exact ⟨rfl, X8.out.bel⟩
end Go.Proofs.YtemhiiignamkjaaDoor
namespace Go.Proofs.YtemhiiignamkjaaDoor
open Go.RowKit LexP ParP

/-- What is read ahead of a token does not hang on what follows it. -/
def Loc {α : Type} (f : List Tok → Rd α) (l : List Tok) : Prop := ∀ (pre : List Tok) (t : Tok) (r r' : List Tok), l = pre ++ t :: r →
  (∀ q, f l = .bad (q ++ t :: r) → f (pre ++ t :: r') = .bad (q ++ t :: r')) ∧ (∀ q x, f l = .ok (q ++ t :: r) x → f (pre ++ t :: r') = .ok (q ++ t :: r') x)
/-- What is left is an end of what there was. -/
def Sfx {α : Type} (f : List Tok → Rd α) (l : List Tok) : Prop := (∀ m x, f l = .ok m x → m <:+ l) ∧ ∀ m, f l = .bad m → m <:+ l
section
variable {α β : Type}
theorem app_same {q pre m : List Tok} (h : q ++ m = pre ++ m) : q = pre := List.append_cancel_right h
theorem ok_loc (x : α) (l : List Tok) : Loc (fun l => .ok l x) l := fun pre t r r' e =>
  ⟨fun q h => (by cases h), fun q y h => by
    injection h with h1 h2
    rw [e] at h1
    rw [app_same h1, h2]⟩
theorem ok_sfx (x : α) (l : List Tok) : Sfx (fun l => .ok l x) l := ⟨fun m y h => (by injection h with h1 _; rw [← h1]; exact List.suffix_refl _), fun m h => (by cases h)⟩
theorem nil_loc {f : List Tok → Rd α} : Loc f [] := fun pre t r r' e => by simp at e
theorem bad_loc {f : List Tok → Rd α} {t0 : Tok} {r0 : List Tok} (hf : ∀ r, f (t0 :: r) = .bad (t0 :: r)) : Loc f (t0 :: r0) := fun pre t r r' e => by
  have hp : ∃ a b, pre ++ t :: r' = t0 :: (a ++ b) ∧ pre ++ t :: r' = t0 :: b := by
    cases pre with
    | nil => injection e with e1 e2; exact ⟨[], r', by rw [e1]; rfl, by rw [e1]; rfl⟩
    | cons a p => injection e with e1 e2; exact ⟨[], p ++ t :: r', by rw [e1]; rfl, by rw [e1]; rfl⟩
  obtain ⟨a, b, _, h2⟩ := hp
  refine ⟨fun q h => ?_, fun q x h => ?_⟩
  · rw [hf, e] at h
    injection h with h
    rw [h2, hf, ← h2, app_same h]
  · rw [hf] at h
    cases h
theorem long_not {q r : List Tok} {t : Tok} : ¬ (q ++ t :: r) <:+ r := fun h => by
  have := h.length_le
  rw [List.length_append, List.length_cons] at this
  omega
theorem cons_loc {f g : List Tok → Rd α} {t0 : Tok} {r0 : List Tok} (hf : ∀ r, f (t0 :: r) = g r) (hs : Sfx g r0) (hl : Loc g r0) : Loc f (t0 :: r0) := fun pre t r r' e => by
  cases pre with
  | nil =>
    injection e with e1 e2
    subst e1 e2
    refine ⟨fun q h => ?_, fun q x h => ?_⟩
    · rw [hf] at h
      exact absurd (hs.2 _ h) long_not
    · rw [hf] at h
      exact absurd (hs.1 _ _ h) long_not
  | cons a p =>
    injection e with e1 e2
    subst e1
    rw [hf, List.cons_append, hf]
    exact hl p t r r' e2
theorem cons_sfx {f g : List Tok → Rd α} {t0 : Tok} {r0 : List Tok} (hf : ∀ r, f (t0 :: r) = g r) (hs : Sfx g r0) : Sfx f (t0 :: r0) :=
  ⟨fun m x h => (hs.1 m x (by rw [← hf]; exact h)).trans (List.suffix_cons _ _), fun m h => (hs.2 m (by rw [← hf]; exact h)).trans (List.suffix_cons _ _)⟩
theorem bind_sfx {f : List Tok → Rd α} {g : List Tok → α → Rd β} {l : List Tok} (hf : Sfx f l) (hg : ∀ m x, f l = .ok m x → Sfx (fun m => g m x) m) : Sfx (fun l => (f l).bind g) l := by
  constructor
  · intro m y h
    cases e : f l with
    | bad k => simp only [e, Rd.bind] at h; cases h
    | ok k x =>
      simp only [e, Rd.bind] at h
      exact ((hg k x e).1 m y h).trans (hf.1 k x e)
  · intro m h
    cases e : f l with
    | bad k => simp only [e, Rd.bind] at h; injection h with h; subst h; exact hf.2 k e
    | ok k x =>
      simp only [e, Rd.bind] at h
      exact ((hg k x e).2 m h).trans (hf.1 k x e)
theorem bind_loc {f : List Tok → Rd α} {g : List Tok → α → Rd β} {l : List Tok} (hl : Loc f l) (hg : ∀ m x, f l = .ok m x → Sfx (fun m => g m x) m ∧ Loc (fun m => g m x) m) : Loc (fun l => (f l).bind g) l := fun pre t r r' e => by
  have hL := hl pre t r r' e
  constructor
  · intro q h
    cases ef : f l with
    | bad k =>
      simp only [ef, Rd.bind] at h
      injection h with h
      subst h
      show (f (pre ++ t :: r')).bind g = _
      rw [hL.1 q ef]
      rfl
    | ok k x =>
      simp only [ef, Rd.bind] at h
      obtain ⟨g1, g2⟩ := hg k x ef
      obtain ⟨z, hz⟩ := g1.2 _ h
      rw [← List.append_assoc] at hz
      show (f (pre ++ t :: r')).bind g = _
      rw [hL.2 (z ++ q) x (by rw [ef, hz])]
      exact (g2 (z ++ q) t r r' hz.symm).1 q h
  · intro q y h
    cases ef : f l with
    | bad k => simp only [ef, Rd.bind] at h; cases h
    | ok k x =>
      simp only [ef, Rd.bind] at h
      obtain ⟨g1, g2⟩ := hg k x ef
      obtain ⟨z, hz⟩ := g1.1 _ _ h
      rw [← List.append_assoc] at hz
      show (f (pre ++ t :: r')).bind g = _
      rw [hL.2 (z ++ q) x (by rw [ef, hz])]
      exact (g2 (z ++ q) t r r' hz.symm).2 q y h
end
theorem take_sfx (p : Tok → Bool) (l : List Tok) : Sfx (take p) l := by
  constructor
  · intro m x h
    obtain ⟨rfl, _⟩ := take_ok h
    exact List.suffix_cons _ _
  · intro m h
    rw [take_bad h]
    exact List.suffix_refl _
theorem take_loc (p : Tok → Bool) (l : List Tok) : Loc (take p) l := by
  cases l with
  | nil => exact nil_loc
  | cons t0 r0 =>
    by_cases hp : p t0 = true
    · exact cons_loc (g := fun r => .ok r t0) (fun r => take_yes r hp) (ok_sfx _ _) (ok_loc _ _)
    · exact bad_loc fun r => take_no r (by simpa using hp)
/-- Both. -/
def LS {α : Type} (f : List Tok → Rd α) (l : List Tok) : Prop := Sfx f l ∧ Loc f l
theorem take_ls (p : Tok → Bool) (l : List Tok) : LS (take p) l := ⟨take_sfx p l, take_loc p l⟩
theorem ok_ls {α : Type} (x : α) (l : List Tok) : LS (fun l => .ok l x) l := ⟨ok_sfx x l, ok_loc x l⟩
theorem bind_ls {α β : Type} {f : List Tok → Rd α} {g : List Tok → α → Rd β} {l : List Tok} (hf : LS f l) (hg : ∀ m x, f l = .ok m x → LS (fun m => g m x) m) : LS (fun l => (f l).bind g) l :=
  ⟨bind_sfx hf.1 fun m x h => (hg m x h).1, bind_loc hf.2 fun m x h => hg m x h⟩
theorem nil_ls {α : Type} {f : List Tok → Rd α} (h : f [] = .bad []) : LS f [] := ⟨⟨fun m x e => (by rw [h] at e; cases e), fun m e => (by rw [h] at e; injection e with e; rw [← e]; exact List.suffix_refl _)⟩, nil_loc⟩
theorem cons_ls {α : Type} {f g : List Tok → Rd α} {t0 : Tok} {r0 : List Tok} (hf : ∀ r, f (t0 :: r) = g r) (hs : LS g r0) : LS f (t0 :: r0) := ⟨cons_sfx hf hs.1, cons_loc hf hs.1 hs.2⟩
theorem bad_ls {α : Type} {f : List Tok → Rd α} {t0 : Tok} {r0 : List Tok} (hf : ∀ r, f (t0 :: r) = .bad (t0 :: r)) : LS f (t0 :: r0) :=
  ⟨⟨fun m x e => (by rw [hf] at e; cases e), fun m e => (by rw [hf] at e; injection e with e; rw [← e]; exact List.suffix_refl _)⟩, bad_loc hf⟩
theorem typLoop_cons (t : Tok) (r : List Tok) (fl lf : Nat) (lb : Bool) : typLoop (t :: r) fl lf lb =
    if isText wClose t then .ok r (fl, lf)
    else if isText wLife t && !lb then (num r).bind fun r2 u => (expect wSemi r2).bind fun r3 _ => typLoop r3 fl u.n true
    else if findW flagWords t.text < 7 && !fl.testBit (findW flagWords t.text) then (expect wSemi r).bind fun r2 _ => typLoop r2 (fl + 2 ^ findW flagWords t.text) lf lb
    else .bad (t :: r) := by
  rw [typLoop.eq_def]
  dsimp only
  split
  · rfl
  · split
    · cases r with
      | nil => rfl
      | cons u r2 =>
        dsimp only
        unfold num
        rw [take]
        split
        · rw [ok_bind]
          cases r2 with
          | nil => rfl
          | cons v r3 =>
            dsimp only
            unfold expect
            rw [take]
            split <;> rfl
        · rfl
    · split
      · cases r with
        | nil => rfl
        | cons v r2 =>
          dsimp only
          unfold expect
          rw [take]
          split <;> rfl
      · rfl
theorem typLoop_ls : ∀ (N : Nat) (l : List Tok) (fl lf : Nat) (lb : Bool), l.length ≤ N → LS (fun l => typLoop l fl lf lb) l := by
  intro N
  induction N with
  | zero =>
    intro l fl lf lb hl
    have : l = [] := List.eq_nil_of_length_eq_zero (Nat.le_zero.1 hl)
    subst this
    exact nil_ls (by rw [typLoop.eq_def])
  | succ N ih =>
    intro l fl lf lb hl
    cases l with
    | nil => exact nil_ls (by rw [typLoop.eq_def])
    | cons t r0 =>
      have hr : r0.length ≤ N := by simpa using hl
      by_cases h1 : isText wClose t = true
      · exact cons_ls (g := fun r => .ok r (fl, lf)) (fun r => by rw [typLoop_cons, if_pos h1]) (ok_ls _ _)
      · by_cases h2 : (isText wLife t && !lb) = true
        · refine cons_ls (g := fun r => (num r).bind fun r2 u => (expect wSemi r2).bind fun r3 _ => typLoop r3 fl u.n true) (fun r => by rw [typLoop_cons, if_neg h1, if_pos h2]) (bind_ls (take_ls _ _) fun m x hm => bind_ls (take_ls _ _) fun m2 x2 hm2 => ih m2 _ _ _ ?_)
          have a := ParP.take_len hm
          have b := ParP.take_len hm2
          omega
        · by_cases h3 : (decide (findW flagWords t.text < 7) && !fl.testBit (findW flagWords t.text)) = true
          · refine cons_ls (g := fun r => (expect wSemi r).bind fun r2 _ => typLoop r2 (fl + 2 ^ findW flagWords t.text) lf lb) (fun r => by rw [typLoop_cons, if_neg h1, if_neg h2, if_pos h3]) (bind_ls (take_ls _ _) fun m2 x2 hm2 => ih m2 _ _ _ ?_)
            have b := ParP.take_len hm2
            omega
          · exact bad_ls fun r => by rw [typLoop_cons, if_neg h1, if_neg h2, if_neg h3]
theorem opt_ls (s : ByteArray) (z : Nat) (l : List Tok) : LS (opt s z) l := by
  cases l with
  | nil =>
    by_cases h : ((⟨#[]⟩ : ByteArray).toList == s.toList) = true
    · exact nil_ls (by unfold opt; rw [if_pos (show ((peek []).toList == s.toList) = true from h)]; rfl)
    · have e : opt s z [] = .ok [] z := by unfold opt; rw [if_neg (show ¬ ((peek []).toList == s.toList) = true from h)]
      exact ⟨⟨fun m x h => (by rw [e] at h; injection h with h _; rw [← h]; exact List.suffix_refl _), fun m h => (by rw [e] at h; cases h)⟩, nil_loc⟩
  | cons t r =>
    by_cases h : (t.text.toList == s.toList) = true
    · have hp : isText s t = true := h
      exact cons_ls (g := fun r => (num r).bind fun l2 t => .ok l2 t.n) (fun r => by
        unfold opt expect
        rw [if_pos (show ((peek (t :: r)).toList == s.toList) = true from h), take_yes _ hp]
        rfl) (bind_ls (take_ls _ _) fun m x _ => ok_ls _ _)
    · have e : ∀ r, opt s z (t :: r) = .ok (t :: r) z := fun r => by
        unfold opt
        rw [if_neg (show ¬ ((peek (t :: r)).toList == s.toList) = true from h)]
      refine ⟨⟨fun m x h => (by rw [e] at h; injection h with h _; rw [← h]; exact List.suffix_refl _), fun m h => (by rw [e] at h; cases h)⟩, fun pre t2 r2 r' e2 => ⟨fun q h => (by rw [e] at h; cases h), fun q x h => ?_⟩⟩
      rw [e, e2] at h
      injection h with h1 h2
      have h3 : ∃ b, pre ++ t2 :: r' = t :: b := by
        cases pre with
        | nil => injection e2 with e3 e4; exact ⟨r', by rw [e3]; rfl⟩
        | cons a p => injection e2 with e3 e4; exact ⟨p ++ t2 :: r', by rw [e3]; rfl⟩
      obtain ⟨b, hb⟩ := h3
      rw [hb, e, ← hb, app_same h1, h2]
theorem rdTyp_ls (l : List Tok) : LS rdTyp l := bind_ls (take_ls _ _) fun _ _ _ => bind_ls (take_ls _ _) fun m _ _ => bind_ls (typLoop_ls _ m 0 0 false (Nat.le_refl _)) fun _ _ _ => ok_ls _ _
theorem rdRul_ls (k : Nat) (l : List Tok) : LS (rdRul k) l := bind_ls (take_ls _ _) fun _ _ _ => bind_ls (take_ls _ _) fun _ _ _ => bind_ls (take_ls _ _) fun _ _ _ => bind_ls (take_ls _ _) fun _ _ _ => ok_ls _ _
theorem rdQuo_ls (l : List Tok) : LS rdQuo l := bind_ls (take_ls _ _) fun _ _ _ => bind_ls (take_ls _ _) fun _ _ _ => bind_ls (opt_ls _ _ _) fun _ _ _ => bind_ls (take_ls _ _) fun _ _ _ => bind_ls (take_ls _ _) fun _ _ _ =>
  bind_ls (opt_ls _ _ _) fun _ _ _ => bind_ls (take_ls _ _) fun _ _ _ => ok_ls _ _
theorem item_ls (st : St) (k : Nat) (l : List Tok) : LS (fun l => item l st k) l := by
  unfold item
  split
  · exact bind_ls (rdTyp_ls _) fun _ _ _ => ok_ls _ _
  · split
    · exact bind_ls (rdQuo_ls _) fun _ _ _ => ok_ls _ _
    · exact bind_ls (rdRul_ls _ _) fun _ _ _ => ok_ls _ _
theorem bind_cong {α β : Type} {a : Rd α} {f g : List Tok → α → Rd β} (h : ∀ m x, a = .ok m x → f m x = g m x) : a.bind f = a.bind g := by
  cases a with
  | ok m x => exact h m x rfl
  | bad m => rfl
theorem items_fuel : ∀ (N f : Nat) (l : List Tok) (st : St), l.length ≤ N → l.length < f → items f l st = items (l.length + 1) l st := by
  intro N
  induction N with
  | zero =>
    intro f l st hl hf
    have : l = [] := List.eq_nil_of_length_eq_zero (Nat.le_zero.1 hl)
    subst this
    rw [items_end, items_end]
  | succ N ih =>
    intro f l st hl hf
    cases l with
    | nil => rw [items_end, items_end]
    | cons t r =>
      have hr : r.length ≤ N := by simpa using hl
      obtain ⟨f, rfl⟩ : ∃ g, f = g + 1 := ⟨f - 1, by omega⟩
      have hf2 : r.length < f := by simp at hf; omega
      by_cases hc : isText wClose t = true
      · rw [items_close _ _ _ _ hc, items_close _ _ _ _ hc]
      · have hc : isText wClose t = false := by simpa using hc
        rw [items_round _ _ _ _ hc, items_round _ _ _ _ hc]
        split
        · refine bind_cong fun m x hm => ?_
          have := item_len hm
          rw [ih f m x (by omega) (by omega), ih (t :: r).length m x (by omega) (by rw [List.length_cons]; omega)]
        · rfl
/-- The items, whatever the bound. -/
def itemsR (l : List Tok) (st : St) : Rd St := items (l.length + 1) l st
theorem itemsR_cons {t : Tok} (r : List Tok) (st : St) (hc : isText wClose t = false) : itemsR (t :: r) st = if findW words7 t.text < 7 then (item r st (findW words7 t.text)).bind itemsR else .bad (t :: r) := by
  unfold itemsR
  rw [List.length_cons, items_round _ _ _ _ hc]
  split
  · refine bind_cong fun m x hm => ?_
    have := item_len hm
    rw [items_fuel m.length (r.length + 1) m x (Nat.le_refl _) (by omega)]
  · rfl
theorem itemsR_ls : ∀ (N : Nat) (l : List Tok) (st : St), l.length ≤ N → LS (fun l => itemsR l st) l := by
  intro N
  induction N with
  | zero =>
    intro l st hl
    have : l = [] := List.eq_nil_of_length_eq_zero (Nat.le_zero.1 hl)
    subst this
    exact nil_ls (items_end _ _)
  | succ N ih =>
    intro l st hl
    cases l with
    | nil => exact nil_ls (items_end _ _)
    | cons t r0 =>
      have hr : r0.length ≤ N := by simpa using hl
      by_cases hc : isText wClose t = true
      · exact cons_ls (g := fun r => .ok r st) (fun r => items_close _ _ _ _ hc) (ok_ls _ _)
      · have hc : isText wClose t = false := by simpa using hc
        by_cases h7 : findW words7 t.text < 7
        · refine cons_ls (g := fun r => (item r st (findW words7 t.text)).bind itemsR) (fun r => by rw [itemsR_cons r st hc, if_pos h7]) (bind_ls (item_ls _ _ _) fun m x hm => ih m x ?_)
          have := item_len hm
          omega
        · exact bad_ls fun r => by rw [itemsR_cons r st hc, if_neg h7]
theorem end_ls (nm : Tok) (st : St) (l : List Tok) : LS (fun l4 => if l4.isEmpty then .ok [] (nm, st) else .bad l4) l := by
  cases l with
  | nil => exact ⟨⟨fun m x h => (by injection h with h _; rw [← h]; exact List.suffix_refl _), fun m h => (by cases h)⟩, nil_loc⟩
  | cons t r => exact bad_ls fun r => rfl
theorem policy_ls (l : List Tok) : LS policy l :=
  bind_ls (take_ls _ _) fun _ _ _ => bind_ls (take_ls _ _) fun _ _ _ => bind_ls (take_ls _ _) fun m _ _ => bind_ls (itemsR_ls _ m _ (Nat.le_refl _)) fun _ _ _ => end_ls _ _ _
/-- The first token that does not fit stays the first, whatever follows it. -/
theorem policy_local {pre r : List Tok} {t : Tok} (h : policy (pre ++ t :: r) = .bad (t :: r)) (r' : List Tok) : policy (pre ++ t :: r') = .bad (t :: r') :=
  ((policy_ls _).2 pre t r r' rfl).1 [] h
theorem policy_end {l m : List Tok} (h : policy l = .bad m) : ∃ pre, l = pre ++ m := by
  obtain ⟨z, hz⟩ := (policy_ls l).1.2 m h
  exact ⟨z, hz.symm⟩
end Go.Proofs.YtemhiiignamkjaaDoor
namespace Go.Proofs.YtemhiiignamkjaaDoor
open Go.RowKit LexP ParP

theorem skipB_cut : ∀ (b : Bool) (x : List UInt8) (n : Nat), skipB b (x.take n) = min (skipB b x) n
  | b, [], n => by
    rw [List.take_nil]
    have : skipB b [] = 0 := by cases b <;> rfl
    omega
  | b, c :: x, 0 => by
    have : skipB b ([] : List UInt8) = 0 := by cases b <;> rfl
    rw [List.take_zero]
    omega
  | false, c :: x, n + 1 => by
    rw [List.take_succ_cons]
    simp only [skipB]
    cases isBlank c with
    | true => simp only [cond_true, skipB_cut false x n]; omega
    | false =>
      simp only [cond_false]
      cases (c.toNat == 35) with
      | true => simp only [cond_true, skipB_cut true x n]; omega
      | false => simp only [cond_false]; omega
  | true, c :: x, n + 1 => by
    rw [List.take_succ_cons]
    simp only [skipB]
    cases (c.toNat == 10) with
    | true => simp only [cond_true, skipB_cut false x n]; omega
    | false => simp only [cond_false, skipB_cut true x n]; omega
theorem skipB_cut_app {x q : List UInt8} {n : Nat} (h : skipB false x < n) (hn : n ≤ x.length) : skipB false (x.take n ++ q) = skipB false x := by
  have h1 := skipB_cut false x n
  have hl : (x.take n).length = n := by rw [List.length_take]; omega
  rw [skipB_within false _ _ (by rw [hl]; omega), h1]
  omega
theorem isE32 : isE 32 = false := by decide
theorem headE_cut (x q : List UInt8) (n : Nat) (h : n = 0 → headE x = false) : headE (x.take n ++ 32 :: q) = headE x := by
  cases n with
  | zero => rw [h rfl]; exact isE32
  | succ n =>
    cases x with
    | nil => exact isE32
    | cons c x => rfl
theorem wordL_cut (q : List UInt8) : ∀ (x : List UInt8) (n : Nat), wordL x ≤ n → wordL (x.take n ++ 32 :: q) = wordL x
  | [], n, _ => by
    rw [List.take_nil, List.nil_append]
    simp [wordL, isE32]
  | c :: x, 0, h => by
    have h0 : wordL (c :: x) = 0 := by omega
    rw [h0, List.take_zero, List.nil_append]
    simp [wordL, isE32]
  | c :: x, n + 1, h => by
    rw [List.take_succ_cons, List.cons_append]
    simp only [wordL] at h ⊢
    cases he : isE c with
    | true =>
      rw [he] at h
      simp only [Bool.true_or, cond_true] at h ⊢
      rw [wordL_cut q x n (by omega)]
    | false =>
      rw [he] at h
      simp only [Bool.false_or] at h ⊢
      cases h45 : (c.toNat == 45) with
      | false => rfl
      | true =>
        rw [h45] at h
        simp only [Bool.true_and] at h ⊢
        cases hh : headE x with
        | false =>
          have : headE (x.take n ++ 32 :: q) = false := by rw [headE_cut x q n (fun _ => hh), hh]
          rw [this]
          rfl
        | true =>
          rw [hh] at h
          simp only [cond_true] at h
          have hx : 1 ≤ wordL x := by
            cases x with
            | nil => cases hh
            | cons d x =>
              have hd : isE d = true := hh
              simp only [wordL, hd, Bool.true_or, cond_true]
              omega
          have : headE (x.take n ++ 32 :: q) = true := by rw [headE_cut x q n (fun e => by omega), hh]
          rw [this]
          simp only [cond_true]
          rw [wordL_cut q x n (by omega)]
theorem isD32 : isD 32 = false := by decide
theorem runD_cut (q : List UInt8) : ∀ (x : List UInt8) (n : Nat), runL isD x ≤ n → runL isD (x.take n ++ 32 :: q) = runL isD x
  | [], n, _ => by
    rw [List.take_nil, List.nil_append]
    simp [runL, isD32]
  | c :: x, 0, h => by
    have h0 : runL isD (c :: x) = 0 := by omega
    rw [h0, List.take_zero, List.nil_append]
    simp [runL, isD32]
  | c :: x, n + 1, h => by
    rw [List.take_succ_cons, List.cons_append]
    simp only [runL] at h ⊢
    cases he : isD c with
    | true =>
      rw [he] at h
      simp only [cond_true] at h ⊢
      rw [runD_cut q x n (by omega)]
    | false => rfl
theorem drop_cut {x q : List UInt8} {n r : Nat} (h : r ≤ n) (hr : r ≤ x.length) : (x.take n ++ q).drop r = (x.drop r).take (n - r) ++ q := by
  rw [List.drop_append_of_le_length (by rw [List.length_take]; omega), List.drop_take]
theorem headU_cut (x q : List UInt8) (n : Nat) (h : n = 0 → headU x = 0) : headU (x.take n ++ 32 :: q) = headU x := by
  cases n with
  | zero => rw [h rfl]; rfl
  | succ n =>
    cases x with
    | nil => rfl
    | cons c x => rfl
theorem numberL_cut {x q : List UInt8} {n : Nat} (h0 : (numberL x).1 ≠ 0) (h : (numberL x).1 ≤ n) : numberL (x.take n ++ 32 :: q) = numberL x := by
  have hle := runL_le isD x
  unfold numberL at h0 h ⊢
  by_cases c1 : 1 < runL isD x ∧ x.head? = some 48
  · rw [if_pos c1] at h0
    exact absurd rfl h0
  · rw [if_neg c1] at h0 h ⊢
    by_cases c2 : 0 < headU (x.drop (runL isD x))
    · rw [if_pos c2] at h0 h ⊢
      by_cases c3 : headE (x.drop (runL isD x + 1)) = true
      · rw [if_pos c3] at h0
        exact absurd rfl h0
      · rw [if_neg c3] at h0 h ⊢
        dsimp only at h
        have hlt : runL isD x + 1 ≤ x.length := by
          rcases Nat.lt_or_ge (runL isD x) x.length with h1 | h1
          · exact h1
          · rw [List.drop_eq_nil_of_le h1] at c2; exact absurd c2 (by simp [headU])
        have e0 := runD_cut q x n (by omega)
        have e1 : (x.take n ++ 32 :: q).head? = x.head? := by
          cases x with
          | nil => simp at hlt
          | cons c x =>
            obtain ⟨m, rfl⟩ : ∃ m, n = m + 1 := ⟨n - 1, by omega⟩
            rfl
        have e2 : headU ((x.take n ++ 32 :: q).drop (runL isD x)) = headU (x.drop (runL isD x)) := by
          rw [drop_cut (by omega) (by omega)]
          exact headU_cut _ _ _ (fun e => by omega)
        have e3 : headE ((x.take n ++ 32 :: q).drop (runL isD x + 1)) = headE (x.drop (runL isD x + 1)) := by
          rw [drop_cut (by omega) hlt]
          exact headE_cut _ _ _ (fun _ => by simpa using c3)
        have e4 : (x.take n ++ 32 :: q).take (runL isD x) = x.take (runL isD x) := by
          rw [List.take_append_of_le_length (by rw [List.length_take]; omega), List.take_take, Nat.min_eq_left (by omega)]
        rw [e0, e1, if_neg c1, e2, if_pos c2, e3, if_neg c3, e4]
    · rw [if_neg c2] at h0 h ⊢
      by_cases c3 : headE (x.drop (runL isD x)) = true
      · rw [if_pos c3] at h0
        exact absurd rfl h0
      · rw [if_neg c3] at h0 h ⊢
        dsimp only at h h0
        have e0 := runD_cut q x n h
        have e1 : (x.take n ++ 32 :: q).head? = x.head? := by
          cases x with
          | nil => exact absurd rfl h0
          | cons c x =>
            obtain ⟨m, rfl⟩ : ∃ m, n = m + 1 := ⟨n - 1, by omega⟩
            rfl
        have hu : headU (x.drop (runL isD x)) = 0 := by omega
        have e2 : headU ((x.take n ++ 32 :: q).drop (runL isD x)) = headU (x.drop (runL isD x)) := by
          rw [drop_cut h hle]
          exact headU_cut _ _ _ (fun _ => hu)
        have e3 : headE ((x.take n ++ 32 :: q).drop (runL isD x)) = headE (x.drop (runL isD x)) := by
          rw [drop_cut h hle]
          exact headE_cut _ _ _ (fun _ => by simpa using c3)
        have e4 : (x.take n ++ 32 :: q).take (runL isD x) = x.take (runL isD x) := by
          rw [List.take_append_of_le_length (by rw [List.length_take]; omega), List.take_take, Nat.min_eq_left h]
        rw [e0, e1, if_neg c1, e2, if_neg c2, e3, if_neg c3, e4]
theorem signL_cut {x q : List UInt8} {n : Nat} (h0 : signL x ≠ 0) (h : signL x ≤ n) : signL (x.take n ++ 32 :: q) = signL x := by
  match x with
  | [] => exact absurd rfl h0
  | [c] =>
    obtain ⟨m, rfl⟩ : ∃ m, n = m + 1 := ⟨n - 1, by omega⟩
    rw [List.take_succ_cons, List.take_nil]
    simp [signL, isArrow]
  | c :: d :: t =>
    obtain ⟨m, rfl⟩ : ∃ m, n = m + 1 := ⟨n - 1, by omega⟩
    cases m with
    | succ m => rfl
    | zero =>
      show signL (c :: 32 :: q) = signL (c :: d :: t)
      have ha : isArrow (c :: d :: t) = false := by
        cases ha : isArrow (c :: d :: t) with
        | false => rfl
        | true =>
          simp only [signL, ha, cond_true] at h
          omega
      have hb : isArrow (c :: 32 :: q) = false := by simp [isArrow]
      simp only [signL, ha, hb]
theorem tokenL_cut {x q : List UInt8} {n : Nat} (h0 : (tokenL x).2.1 ≠ 0) (h : (tokenL x).2.1 ≤ n) : tokenL (x.take n ++ 32 :: q) = tokenL x := by
  have hw := wordL_cut q x n
  have hn : (numberL x).1 ≠ 0 → (numberL x).1 ≤ n → numberL (x.take n ++ 32 :: q) = numberL x := numberL_cut
  have hs : signL x ≠ 0 → signL x ≤ n → signL (x.take n ++ 32 :: q) = signL x := signL_cut
  match x with
  | [] => exact absurd rfl h0
  | c :: t =>
    obtain ⟨m, rfl⟩ : ∃ m, n = m + 1 := ⟨n - 1, by omega⟩
    rw [List.take_succ_cons, List.cons_append] at hw hn hs ⊢
    unfold tokenL at h0 h ⊢
    dsimp only at h0 h ⊢
    by_cases c1 : isL c = true
    · rw [if_pos c1] at h0 h ⊢
      rw [if_pos c1, hw h]
    · rw [if_neg c1] at h0 h ⊢
      rw [if_neg c1]
      by_cases c2 : isD c = true
      · rw [if_pos c2] at h0 h ⊢
        rw [if_pos c2, hn h0 h]
      · rw [if_neg c2] at h0 h ⊢
        rw [if_neg c2, hs h0 h]
theorem chain_place {s : ByteArray} {a : Nat} {l : List Tok} (h : Chain s a l) : ∀ t ∈ l, a ≤ t.pos ∧ t.pos + t.text.size ≤ s.size ∧ 0 < t.text.size := by
  induction h with
  | nil a h => intro t ht; cases ht
  | cons a p r hp hlt hn hv hr ih =>
    have hle := tokenL_le (s.data.toList.drop p)
    rw [List.length_drop, blen] at hle
    intro t ht
    rcases List.mem_cons.1 ht with rfl | ht
    · have hsz : (tokAt s p).text.size = (tokenL (s.data.toList.drop p)).2.1 := by
        show (s.extract p _).size = _
        rw [ByteArray.size_extract]; omega
      have hpos : (tokAt s p).pos = p := rfl
      rw [hsz, hpos]
      omega
    · have := ih t ht
      omega
theorem chain_cut {s H : ByteArray} {e : Nat} {q : List UInt8} (hH : H.data.toList = s.data.toList.take e ++ 32 :: q) (he : e ≤ s.size) {a : Nat} {l : List Tok} (h : Chain s a l) :
    ∀ (i : Nat) (t : Tok) (m : List Tok), l[i]? = some t → e = t.pos + t.text.size → Chain H a m → ∃ m2, m = l.take (i + 1) ++ m2 := by
  have hdrop : ∀ p, p ≤ e → H.data.toList.drop p = (s.data.toList.drop p).take (e - p) ++ 32 :: q := fun p hp => by
    rw [hH, drop_cut hp (by rw [blen]; omega)]
  have hHe : e < H.size := by
    rw [← blen, hH, List.length_append, List.length_take, blen, List.length_cons]
    omega
  induction h with
  | nil a h => intro i t m ht; simp at ht
  | cons a p r hp hlt hn hv hr ih =>
    intro i t m ht hte hm
    have hle := tokenL_le (s.data.toList.drop p)
    rw [List.length_drop, blen] at hle
    have hsz : (tokAt s p).text.size = (tokenL (s.data.toList.drop p)).2.1 := by
      show (s.extract p _).size = _
      rw [ByteArray.size_extract]; omega
    have hpe : p + (tokenL (s.data.toList.drop p)).2.1 ≤ e := by
      cases i with
      | zero =>
        simp only [List.getElem?_cons_zero, Option.some.injEq] at ht
        subst ht
        rw [hsz] at hte
        have hpos : (tokAt s p).pos = p := rfl
        rw [hpos] at hte
        omega
      | succ i =>
        rw [List.getElem?_cons_succ] at ht
        have := chain_place hr t (List.mem_of_getElem? ht)
        omega
    have hsk : a + skipB false (H.data.toList.drop a) = p := by
      rw [hdrop a (by omega), skipB_cut_app (by omega) (by rw [List.length_drop, blen]; omega)]
      exact hp
    have htk : tokenL (H.data.toList.drop p) = tokenL (s.data.toList.drop p) := by
      rw [hdrop p (by omega)]
      exact tokenL_cut hn (by omega)
    have hat : tokAt H p = tokAt s p := by
      unfold tokAt
      rw [htk]
      have : H.extract p (p + (tokenL (s.data.toList.drop p)).2.1) = s.extract p (p + (tokenL (s.data.toList.drop p)).2.1) := by
        apply ByteArray.ext
        apply Array.ext'
        rw [ByteArray.data_extract, Array.toList_extract, ByteArray.data_extract, Array.toList_extract]
        show (H.data.toList.drop p).take _ = (s.data.toList.drop p).take _
        rw [hdrop p (by omega), Nat.add_sub_cancel_left, List.take_append_of_le_length (by rw [List.length_take, List.length_drop, blen]; omega), List.take_take, Nat.min_eq_left (by omega)]
      rw [this]
    cases hm with
    | nil _ h => omega
    | cons _ p' r' hp' hlt' hn' hv' hr' =>
      have hpp : p' = p := by omega
      subst hpp
      rw [hat]
      rw [htk] at hr'
      cases i with
      | zero => exact ⟨r', rfl⟩
      | succ i =>
        rw [List.getElem?_cons_succ] at ht
        obtain ⟨m2, rfl⟩ := ih i t r' ht hte hr'
        exact ⟨m2, rfl⟩
theorem place_one {s : ByteArray} {a : Nat} {l : List Tok} (h : Chain s a l) : ∀ (i j : Nat) (t u : Tok), l[i]? = some t → l[j]? = some u → t.pos = u.pos → i = j := by
  induction h with
  | nil a h => intro i j t u ht; simp at ht
  | cons a p r hp hlt hn hv hr ih =>
    have hle := tokenL_le (s.data.toList.drop p)
    rw [List.length_drop, blen] at hle
    have hpos : (tokAt s p).pos = p := rfl
    intro i j t u ht hu e
    cases i with
    | zero =>
      cases j with
      | zero => rfl
      | succ j =>
        simp only [List.getElem?_cons_zero, Option.some.injEq] at ht
        rw [List.getElem?_cons_succ] at hu
        have := chain_place hr u (List.mem_of_getElem? hu)
        subst ht
        omega
    | succ i =>
      rw [List.getElem?_cons_succ] at ht
      cases j with
      | zero =>
        simp only [List.getElem?_cons_zero, Option.some.injEq] at hu
        have := chain_place hr t (List.mem_of_getElem? ht)
        subst hu
        omega
      | succ j =>
        rw [List.getElem?_cons_succ] at hu
        rw [ih i j t u ht hu e]
/-- Where an error of syntax lies: at the end, or at a token; and it stays there whatever follows this token. -/
theorem error_place {s : ByteArray} {l : List Tok} (h : tokens s = .ok l) (he : (parse s).err = 3) :
    ((parse s).pos = s.size ∧ ∀ t ∈ l, t.pos ≠ (parse s).pos) ∨
    (∃ (i0 : Nat) (t0 : Tok), l[i0]? = some t0 ∧ t0.pos = (parse s).pos ∧ (∀ i t, l[i]? = some t → t.pos = (parse s).pos → i = i0) ∧ t0.pos + t0.text.size ≤ s.size ∧
      ∀ (H : ByteArray) (q : List UInt8) (m : List Tok), H.data.toList = s.data.toList.take (t0.pos + t0.text.size) ++ 32 :: q → tokens H = .ok m → (parse H).err = 3 ∧ (parse H).pos = t0.pos) := by
  have hc := (tokens_chain s l h).2
  have hb : ∃ m, policy l = .bad m := by
    unfold parse at he
    rw [h] at he
    dsimp only at he
    cases hp : policy l with
    | bad m => exact ⟨m, rfl⟩
    | ok r x =>
      rw [hp] at he
      dsimp only at he
      cases hw : least (wrongs x.2) with
      | some a => rw [hw] at he; cases he
      | none => rw [hw] at he; cases he
  obtain ⟨m, hm⟩ := hb
  obtain ⟨pre, hpre⟩ := policy_end hm
  cases m with
  | nil =>
    left
    have hpos : (parse s).pos = s.size := by
      unfold parse
      rw [h]
      dsimp only
      rw [hm]
    refine ⟨hpos, fun t ht e => ?_⟩
    have := chain_place hc t ht
    omega
  | cons t0 r =>
    right
    have hpos : (parse s).pos = t0.pos := by
      unfold parse
      rw [h]
      dsimp only
      rw [hm]
    have hi : l[pre.length]? = some t0 := by rw [hpre, List.getElem?_append_right (Nat.le_refl _), Nat.sub_self]; rfl
    have hpl := chain_place hc t0 (List.mem_of_getElem? hi)
    refine ⟨pre.length, t0, hi, hpos.symm, fun i t ht e => place_one hc _ _ t t0 ht hi (e.trans hpos), hpl.2.1, fun H q m2 hH hm2 => ?_⟩
    obtain ⟨m3, e3⟩ := chain_cut hH hpl.2.1 hc pre.length t0 m2 hi rfl (tokens_chain H m2 hm2).2
    have e4 : l.take (pre.length + 1) = pre ++ [t0] := by
      rw [hpre, List.take_append, List.take_of_length_le (by omega), Nat.add_sub_cancel_left]
      rfl
    have hm4 : policy m2 = .bad (t0 :: m3) := by
      rw [e3, e4, List.append_assoc]
      exact policy_local (hpre ▸ hm) m3
    unfold parse
    rw [hm2]
    dsimp only
    rw [hm4]
    exact ⟨rfl, rfl⟩
end Go.Proofs.YtemhiiignamkjaaDoor
namespace Go.Proofs.YtemhiiignamkjaaDoor
open Go.RowKit LexP ParP
attribute [local go_sem] Oper.semAt_some

theorem slice_to (s : ByteArray) (K : Nat) (h : K ≤ s.size) (wx : World) : (Instr.slice 9 (.string s) none (some (.int .i64 (K : Int))) none).run Tryd.prog wx = .ok (.string (s.extract 0 K)) wx := by
  have h1 : (K : Int) ≤ (s.size : Int) := by omega
  simp [Instr.slice, Instr.sliceBounds, Instr.sliceBound, asIntOf, run_underlying Tryd.underlying9]
  intro hc
  omega
/-- A call of the specification's Tokens, its box. -/
structure RdE (w W : World) (g B : Nat) (v : Value) (pos err : Int) (l : List Tok) : Prop where
  bel : Below w.heap.size w W
  box : Blk W g 44 #[v, .int .i64 pos, .int .i64 err]
  toks : TkAt W B v l
  le : B ≤ W.heap.size
theorem RdE.below {w W V : World} {g B : Nat} {v : Value} {pos err : Int} {l : List Tok} (h : RdE w W g B v pos err l) (hB : Below W.heap.size W V) : RdE w V g B v pos err l :=
  ⟨h.bel.trans (hB.mono h.bel.size), h.box.below hB h.box.lt, h.toks.below (hB.mono h.le), Nat.le_trans h.le hB.size⟩
set_option maxRecDepth 100000 in
set_option maxHeartbeats 12800000 in
theorem law_errors (s more : ByteArray) (w : World) (hs : s.size ≤ maxLen) (hm : more.size ≤ maxLen) (hW : Tabs w) (hpow : PowAt w) :
    Calls Tryd.prog 8 #[.string s, .string more] w fun e w' => e = .returned (.bool true) ∧ Below w.heap.size w w' := by
  have HW := Lib.hid hW
  have HS := Lib.hid (fun W (h : Below w.heap.size w W) => sanity_any W (hW.below h) (hpow.below h))
  have hsH := Lib.hid hs
  unfold maxLen at hs hm
  by_cases hbig : 2000 < s.size
  · have d1 : decide (2000 < s.size) = true := decide_eq_true hbig
    have d2 : decide ((2000 : Int) < (s.size : Int)) = true := decide_eq_true (by omega)
    clear hs hm hW hpow hbig
    go_enter Tryd.func8, Tryd.ntmps8
    go_wp2_with fail
    refine (HS.out w (Below.refl _ _)).mono ?_
    rintro e w1 ⟨rfl, hB1⟩
    have B1 := Lib.hid hB1
    clear hB1
    go_wp2_with fail
    go_ret
    exact ⟨rfl, B1.out⟩
  have d1 : decide (2000 < s.size) = false := decide_eq_false hbig
  have d2 : decide ((2000 : Int) < (s.size : Int)) = false := decide_eq_false (by omega)
  by_cases hbig2 : 1000 < more.size
  · have d3 : decide (1000 < more.size) = true := decide_eq_true hbig2
    have d4 : decide ((1000 : Int) < (more.size : Int)) = true := decide_eq_true (by omega)
    clear hs hm hW hpow hbig hbig2
    go_enter Tryd.func8, Tryd.ntmps8
    go_wp2_with fail
    refine (HS.out w (Below.refl _ _)).mono ?_
    rintro e w1 ⟨rfl, hB1⟩
    have B1 := Lib.hid hB1
    clear hB1
    go_wp2_with fail
    go_ret
    exact ⟨rfl, B1.out⟩
  have d3 : decide (1000 < more.size) = false := decide_eq_false hbig2
  have d4 : decide ((1000 : Int) < (more.size : Int)) = false := decide_eq_false (by omega)
  have HR := Lib.hid (ref_Tokens_any s w (by omega))
  have hs2 : Hid (s.size ≤ 2000) := by unfold Hid; omega
  have hm2 : Hid (more.size ≤ 1000) := by unfold Hid; omega
  obtain ⟨o, ho⟩ : ∃ o, parse s = o := ⟨_, rfl⟩
  have HPA := Lib.hid (fun W (h : Below w.heap.size w W) => Parse_box s w W hsH.out hW h o ho)
  have hoH := Lib.hid ho
  clear hs hm hW hpow hbig hbig2 ho
  go_enter Tryd.func8, Tryd.ntmps8
  go_wp2_with fail
  refine HR.out.mono ?_
  rintro e w1 ⟨v, pos, err, rfl, hres, hB1⟩
  obtain ⟨l, hl⟩ : ∃ l, (match tokens s with | .ok l => l | .err _ _ => []) = l := ⟨_, rfl⟩
  have hR1 : Hid (TkAt w1 w1.heap.size v l ∧ (match tokens s with | .ok _ => err = 0 | .err _ _ => err ≠ 0)) := by
    unfold Hid
    rw [← hl]
    cases htk : tokens s with
    | err a0 e0 =>
      rw [htk] at hres
      obtain ⟨rfl, rfl, rfl⟩ := hres
      exact ⟨⟨none, 0, rfl, fun h => by cases h⟩, tokens_errs htk⟩
    | ok m =>
      rw [htk] at hres
      obtain ⟨rfl, rfl, hown⟩ := hres
      exact ⟨tkAt_own hown, rfl⟩
  have hlH := Lib.hid hl
  have B1 := Lib.hid hB1
  clear hres hB1 hl HR
  obtain ⟨A, c, rfl, _⟩ := id hR1.out.1
  obtain ⟨n, hn⟩ : ∃ n, l.length = n := ⟨_, rfl⟩
  have hnH := Lib.hid hn
  rw [hn] at hR1 ⊢
  clear hn
  go_upto_region 4 with fail
  refine world_is (P := fun W => Code.wp _ _ _ _ W) (fun W2 hW2 => ?_)
  have X2 : Hid (RdE w W2 w1.heap.size w1.heap.size (.slice A n c) pos err l) := by
    have hB : Below w1.heap.size w1 W2 := by rw [← hW2]; exact (Below.refl _ _).alloc (Nat.le_refl _) _
    exact ⟨B1.out.trans (hB.mono B1.out.size), by rw [← hW2]; exact Blk.new _ _ _, hR1.out.1.below hB, hB.size⟩
  obtain ⟨g, hg⟩ : ∃ g, w1.heap.size = g := ⟨_, rfl⟩
  rw [hg] at X2 ⊢
  have hE := Lib.hid hR1.out.2
  clear hW2 hg B1 hR1
  go_wp2_with fail
  refine (HPA.out W2 X2.out.bel).mono ?_
  rintro e w3 ⟨nm, At, T, ct, Ar, R, cr, Aq, Q, cq, rfl, _, hB3⟩
  have X3 := Lib.hid (X2.out.below hB3)
  clear hB3 X2 HPA
  go_upto_region 5 with fail
  refine world_is (P := fun W => Code.wp _ _ _ _ W) (fun W4 hW4 => ?_)
  have X4 : Hid (RdE w W4 g g (.slice A n c) pos err l) := X3.out.below (by rw [← hW4]; exact (Below.refl _ _).alloc (Nat.le_refl _) _)
  have c2 := X4.out.box.cell 2
  clear hW4 X3
  obtain ⟨p, ps, er⟩ := o
  dsimp only
  by_cases he : err ≠ 0
  · have t0 : (err != 0) = true := by rw [bne_iff_ne]; exact he
    clear he hE
    go_wp2_with fail
    refine (HS.out W4 X4.out.bel).mono ?_
    rintro e w5 ⟨rfl, hB5⟩
    have X5 := Lib.hid (X4.out.below hB5)
    clear hB5 X4
    go_wp2_with fail
    go_ret
    exact ⟨rfl, X5.out.bel⟩
  have he : err = 0 := Classical.not_not.1 he
  by_cases he3 : er ≠ 3
  · have t1 : (er != 3) = true := by rw [bne_iff_ne]; exact he3
    subst he
    clear he3 hE
    go_wp2_with fail
    refine (HS.out W4 X4.out.bel).mono ?_
    rintro e w5 ⟨rfl, hB5⟩
    have X5 := Lib.hid (X4.out.below hB5)
    clear hB5 X4
    go_wp2_with fail
    go_ret
    exact ⟨rfl, X5.out.bel⟩
  have he3 : er = 3 := Classical.not_not.1 he3
  subst he he3
  have htk : Hid (tokens s = .ok l) := by
    have h1 := hE.out
    have h2 := hlH.out
    unfold Hid
    cases htk : tokens s with
    | err a0 e0 => rw [htk] at h1; exact absurd rfl h1
    | ok m => rw [htk] at h2; rw [← h2]
  clear hE hlH
  have hpl := error_place htk.out (by rw [hoH.out])
  rw [hoH.out] at hpl
  dsimp only at hpl
  have hn4 := (tokens_facts htk.out).2.1
  have hf3 := Lib.hid (tokens_facts htk.out).2.2
  have hn2 : n ≤ 2000 := by have := hs2.out; have := hnH.out; omega
  have X5 := X4
  have hTK := X4.out.toks
  rw [← hnH.out] at hTK
  have hTK := Lib.hid hTK
  clear hn4 X4
  have c0 := X5.out.box.cell 0
  rcases hpl with ⟨hend, hno⟩ | ⟨i0, t0, hi0, hp0, hone, hle, hcut⟩
  · have hnoH := Lib.hid hno
    have hends : (ps : Int) = (s.size : Int) := by rw [hend]
    have m1 : ((ps : Int) == (s.size : Int)) = true := by rw [hend]; simp
    have m2 : (ps == s.size) = true := by rw [hend]; simp
    have hendH := Lib.hid hend
    clear hno hends hend
    go_wp2_with fail
    go_loopw [9] (fun v9 wr => ∃ i : Nat, v9 = .int .i64 i ∧ i ≤ n ∧ wr = W4) (fun v9 _ => n - (intOf v9).toNat)
    case atStart => exact ⟨0, rfl, Nat.zero_le _, rfl⟩
    case round =>
    obtain ⟨i, rfl, hi, hwr⟩ := hrel
    rw [hwr]
    clear hwr
    by_cases hlt : i < n
    · have e1 : decide (i < n) = true := decide_eq_true hlt
      have e2 : decide ((i : Int) < (n : Int)) = true := decide_eq_true (by omega)
      obtain ⟨T, hT⟩ : ∃ T, l[i]? = some T := ⟨_, List.getElem?_eq_getElem (by rw [hnH.out]; exact hlt)⟩
      obtain ⟨tb, tf, rfl, _, _, k1, _, k3⟩ := hTK.out.at_ i T hT
      have hne := hnoH.out T (List.mem_of_getElem? hT)
      have q0 : (0 : Int) ≤ (i : Int) := by omega
      have q1 : (i : Int) < (n : Int) := by omega
      have q2 : (n : Int) ≤ 4000 := by omega
      have hltH := Lib.hid hlt
      obtain ⟨tp, htp⟩ : ∃ t, T.pos = t := ⟨_, rfl⟩
      rw [htp] at k3 hne
      have r1 : ((tp : Int) != (ps : Int)) = true := by rw [bne_iff_ne]; omega
      have r2 : (tp != ps) = true := by rw [bne_iff_ne]; exact hne
      clear hT hlt htp hne
      go_wp2_with fail
      go_roundw
      case rel => exact ⟨i + 1, by go_num, hltH.out, trivial⟩
      case measure => have := hltH.out; simp [intOf]; omega
    · have e1 : decide (i < n) = false := decide_eq_false hlt
      have e2 : decide ((i : Int) < (n : Int)) = false := decide_eq_false (by omega)
      clear hlt
      go_wp2_with fail
      refine (HS.out W4 X5.out.bel).mono ?_
      rintro e w5 ⟨rfl, hB5⟩
      have X6 := Lib.hid (X5.out.below hB5)
      clear hB5
      go_wp2_with fail
      go_ret
      exact ⟨rfl, X6.out.bel⟩
  · have honeH := Lib.hid hone
    have hi0H := Lib.hid hi0
    have hp0H := Lib.hid hp0
    have hleH := Lib.hid hle
    have hcutH := Lib.hid hcut
    have hi0n : i0 < n := by rw [← hnH.out]; exact (List.getElem?_eq_some_iff.1 hi0).1
    have hps : Hid (ps ≤ 4000) := by unfold Hid; rw [← hp0]; exact (hf3.out _ (List.mem_of_getElem? hi0)).2
    clear hone hi0 hp0 hle hcut
    go_wp2_with fail
    go_loopw [9] (fun v9 wr => ∃ i : Nat, v9 = .int .i64 i ∧ i ≤ i0 ∧ wr = W4) (fun v9 _ => n - (intOf v9).toNat)
    case atStart => exact ⟨0, rfl, Nat.zero_le _, rfl⟩
    case round =>
    obtain ⟨i, rfl, hi, hwr⟩ := hrel
    rw [hwr]
    clear hwr
    have hlt : i < n := by omega
    have e1 : decide (i < n) = true := decide_eq_true hlt
    have e2 : decide ((i : Int) < (n : Int)) = true := decide_eq_true (by omega)
    have hltH := Lib.hid hlt
    have q0 : (0 : Int) ≤ (i : Int) := by omega
    have q1 : (i : Int) < (n : Int) := by omega
    have q2 : (n : Int) ≤ 4000 := by omega
    by_cases hii : i = i0
    · obtain ⟨tb, tf, rfl, _, _, k1, _, k3⟩ := hTK.out.at_ i t0 (by rw [hii]; exact hi0H.out)
      rw [hp0H.out] at k3
      obtain ⟨tx, htx⟩ : ∃ t, t0.text = t := ⟨_, rfl⟩
      have hle2 := hleH.out
      have hcut2 := hcutH.out
      rw [hp0H.out, htx] at hle2 hcut2
      rw [htx] at k1
      obtain ⟨K, hK⟩ : ∃ K, ps + tx.size = K := ⟨_, rfl⟩
      rw [hK] at hle2 hcut2
      have hK2 := hs2.out
      have hw2 : (ps : Int) + (tx.size : Int) = (K : Int) := by omega
      have hw3h : Hid (wrap64 (K : Int) = (K : Int)) := by unfold Hid; rw [wrap64]; omega
      have p0 : (0 : Int) ≤ (K : Int) := by omega
      have p1 : (K : Int) ≤ (s.size : Int) := by omega
      have r1 : ((ps : Int) != (ps : Int)) = false := by simp
      have r2 : (ps != ps) = false := by simp
      have hsl := slice_to s K (by omega)
      have hxs : (s.extract 0 K).size = K := by rw [ByteArray.size_extract]; omega
      obtain ⟨X, hX⟩ : ∃ X, s.extract 0 K = X := ⟨_, rfl⟩
      rw [hX] at hxs
      simp only [hX] at hsl
      obtain ⟨U, hU⟩ : ∃ U, X ++ (⟨#[32]⟩ : ByteArray) = U := ⟨_, rfl⟩
      have a1 : ∀ wx, (Op.stringOp .add X ⟨#[32]⟩).run Tryd.prog wx = .ok (.string U) wx := fun wx => by
        rw [← hU]
        exact run_string_add_sum wx _ _ (by rw [hxs]; show K + 1 ≤ _; omega)
      have hUs : U.size = K + 1 := by rw [← hU, ByteArray.size_append, hxs]; rfl
      obtain ⟨V, hV⟩ : ∃ V, U ++ more = V := ⟨_, rfl⟩
      have a2 : ∀ wx, (Op.stringOp .add U more).run Tryd.prog wx = .ok (.string V) wx := fun wx => by
        rw [← hV]
        exact run_string_add_sum wx _ _ (by have := hm2.out; omega)
      have hVs : Hid (V.size ≤ 4000) := by unfold Hid; rw [← hV, ByteArray.size_append]; have := hm2.out; omega
      have hVd : V.data.toList = s.data.toList.take K ++ 32 :: more.data.toList := by
        rw [← hV, ← hU, app_data, app_data, ← hX, ByteArray.data_extract, Array.toList_extract]
        show (s.data.toList.take (K - 0) ++ [32]) ++ _ = _
        rw [List.append_assoc]
        rfl
      have hcut3 := Lib.hid (fun m => hcut2 V more.data.toList m hVd)
      obtain ⟨o2, ho2⟩ : ∃ o, parse V = o := ⟨_, rfl⟩
      rw [ho2] at hcut3
      have HP2 := Lib.hid (fun W (h : Below w.heap.size w W) => Parse_box V w W (by have := hVs.out; unfold maxLen; omega) HW.out h o2 ho2)
      have HR2 := Lib.hid (fun W => ref_Tokens_any V W (by have := hVs.out; omega))
      have hw3 := hw3h.out
      clear hii htx hle2 hcut2 hK hK2 hU hxs hUs hV hVd ho2 hlt hX
      go_wp2_with fail
      refine (HR2.out W4).mono ?_
      rintro e w5 ⟨v2, pos2, err2, rfl, hres2, hB5⟩
      have X6 := Lib.hid (X5.out.below hB5)
      obtain ⟨A3, n3, c3, rfl⟩ : ∃ A n c, v2 = .slice A n c := by
        unfold TokRes at hres2
        cases htk2 : tokens V with
        | err a0 e0 => rw [htk2] at hres2; exact ⟨_, _, _, hres2.2.2⟩
        | ok m =>
          rw [htk2] at hres2
          obtain ⟨A, c, e⟩ := own_slice hres2.2.2
          exact ⟨_, _, _, e⟩
      have hres3 := Lib.hid hres2
      clear hB5 HR2 hres2
      go_upto_region 13 with fail
      refine world_is (P := fun W => Code.wp _ _ _ _ W) (fun W6 hW6 => ?_)
      have hB6 : Below w5.heap.size w5 W6 := by rw [← hW6]; exact (Below.refl _ _).alloc (Nat.le_refl _) _
      have X7 := Lib.hid (X6.out.below hB6)
      have Y7 : Hid (Blk W6 w5.heap.size 44 #[.slice A3 n3 c3, .int .i64 pos2, .int .i64 err2]) := by unfold Hid; rw [← hW6]; exact Blk.new _ _ _
      obtain ⟨g2, hg2⟩ : ∃ g, w5.heap.size = g := ⟨_, rfl⟩
      rw [hg2] at Y7 ⊢
      clear hW6 hB6 hg2 X6
      go_wp2_with fail
      refine (HP2.out W6 X7.out.bel).mono ?_
      rintro e w7 ⟨nm2, At2, T2, ct2, Ar2, R2, cr2, Aq2, Q2, cq2, rfl, _, hB7⟩
      have X8 := Lib.hid (X7.out.below hB7)
      have Y8 := Lib.hid (Y7.out.below hB7 Y7.out.lt)
      clear hB7 X7 Y7 HP2
      obtain ⟨p2, ps2, er2⟩ := o2
      dsimp only
      go_upto_region 14 with fail
      refine world_is (P := fun W => Code.wp _ _ _ _ W) (fun W8 hW8 => ?_)
      have hB8 : Below w7.heap.size w7 W8 := by rw [← hW8]; exact (Below.refl _ _).alloc (Nat.le_refl _) _
      have X9 := Lib.hid (X8.out.below hB8)
      have Y9 := Lib.hid (Y8.out.below hB8 Y8.out.lt)
      clear hW8 hB8 X8 Y8
      go_wp2_with fail
      refine (HS.out W8 X9.out.bel).mono ?_
      rintro e w9 ⟨rfl, hB9⟩
      have X10 := Lib.hid (X9.out.below hB9)
      have Y10 := Lib.hid (Y9.out.below hB9 Y9.out.lt)
      clear hB9 X9 Y9
      have u2 := Y10.out.cell 2
      have hres2 := hres3.out
      clear hres3
      cases htk2 : tokens V with
      | err a0 e0 =>
        rw [htk2] at hres2
        obtain ⟨rfl, rfl, _⟩ := hres2
        have s1 : (err2 != 0) = true := by rw [bne_iff_ne]; exact tokens_errs htk2
        clear htk2
        go_wp2_with fail
        go_ret
        exact ⟨rfl, X10.out.bel⟩
      | ok m =>
        rw [htk2] at hres2
        obtain ⟨rfl, rfl, _⟩ := hres2
        obtain ⟨z1, z2⟩ := hcut3.out m htk2
        subst z1
        rw [z2]
        have s2 : ((ps : Int) == (ps : Int)) = true := by simp
        have s3 : (ps == ps) = true := by simp
        clear htk2 hcut3 z2
        go_wp2_with fail
        go_ret
        exact ⟨rfl, X10.out.bel⟩
    · obtain ⟨T, hT⟩ : ∃ T, l[i]? = some T := ⟨_, List.getElem?_eq_getElem (by rw [hnH.out]; exact hlt)⟩
      obtain ⟨tb, tf, rfl, _, _, k1, _, k3⟩ := hTK.out.at_ i T hT
      have hne : T.pos ≠ ps := fun e => hii (honeH.out i T hT e)
      have hnx : Hid (i + 1 ≤ i0) := Nat.lt_of_le_of_ne hi hii
      obtain ⟨tp, htp⟩ : ∃ t, T.pos = t := ⟨_, rfl⟩
      rw [htp] at k3 hne
      have r1 : ((tp : Int) != (ps : Int)) = true := by rw [bne_iff_ne]; omega
      have r2 : (tp != ps) = true := by rw [bne_iff_ne]; exact hne
      clear hT hlt htp hne hii
      go_wp2_with fail
      go_roundw
      case rel => exact ⟨i + 1, by go_num, hnx.out, trivial⟩
      case measure => have := hltH.out; simp [intOf]; omega
end Go.Proofs.YtemhiiignamkjaaDoor
