/-
  Layer 12 (parse): a policy that was read can be printed (plain).
  Layer 12 (parse): the walk of the statement that a printed policy that was read is read and printed again.
  Layer 12 (parse): other blanks between the tokens (plain).
  Layer 12 (parse): the walk of the statement that other blanks change nothing.
-/
import Derived.Test.YtemhiiignamkjaaDoorMB
import Derived.Test.YtemhiiignamkjaaDoorParL1
import Derived.Test.YtemhiiignamkjaaDoorNB
import Derived.Laws.Concat
namespace Go.Proofs.YtemhiiignamkjaaDoor
open Go.RowKit LexP ParP

def capN : Nat := 1099511627776
theorem er_list_one {m : List Tok} {t : Tok} (h : m.map er = [er t]) : ∃ u, m = [u] ∧ u.kind = t.kind ∧ u.text = t.text := by
  match m, h with
  | [u], h =>
    simp only [List.map_cons, List.map_nil, List.cons.injEq, and_true] at h
    unfold er at h
    injection h with h1 h2 h3 h4
    exact ⟨u, rfl, h1, h2⟩
  | [], h => cases h
  | _ :: _ :: _, h => simp at h
theorem isWordB_tok {t : Tok} (hg : LexP.Good t) (hk : t.kind = 1) (hs : t.text.size ≤ 4000) : isWordB t.text = true := by
  have hl : Lay t.text.data.toList [t] := by
    have := Lay.cons [] t [] [] gap_nil hg soft_nil3 (.nil [] gap_nil)
    rwa [List.nil_append, List.append_nil] at this
  obtain ⟨m, hm, he⟩ := lay_tokens t.text hl hs
  obtain ⟨u, rfl, h1, h2⟩ := er_list_one he
  unfold isWordB
  rw [hm]
  show (decide (u.kind = 1) && (u.text.toList == t.text.toList)) = true
  rw [h1, hk, h2]
  simp
/-- The numbers of what was read. -/
structure Fine (st : St) : Prop where
  typs : ∀ x ∈ st.typs, x.name.kind = 1 ∧ x.flags < 128 ∧ x.life ≤ capN
  ruls : ∀ x ∈ st.ruls, 1 ≤ x.kind ∧ x.kind ≤ 5
  quos : ∀ x ∈ st.quos, 1 ≤ x.cmd ∧ x.cmd ≤ 27 ∧ x.count ≤ capN ∧ x.delay ≤ capN ∧ x.valid ≤ capN ∧ x.uses ≤ capN
theorem typLoop_fine : ∀ (N : Nat) (l : List Tok) (fl lf : Nat) (lb : Bool) (r : List Tok) (x : Nat × Nat), l.length ≤ N → typLoop l fl lf lb = .ok r x → (∀ t ∈ l, t.n ≤ capN) → fl < 128 → lf ≤ capN → x.1 < 128 ∧ x.2 ≤ capN := by
  intro N
  induction N with
  | zero =>
    intro l fl lf lb r x hl h
    have : l = [] := List.eq_nil_of_length_eq_zero (Nat.le_zero.1 hl)
    subst this
    rw [typLoop.eq_def] at h
    cases h
  | succ N ih =>
    intro l fl lf lb r x hl h ht h1 h2
    cases l with
    | nil => rw [typLoop.eq_def] at h; cases h
    | cons t r0 =>
      rw [typLoop.eq_def] at h
      dsimp only at h
      split at h
      · cases h; exact ⟨h1, h2⟩
      · split at h
        · cases r0 with
          | nil => cases h
          | cons u r2 =>
            dsimp only at h
            split at h
            · cases r2 with
              | nil => cases h
              | cons v r3 =>
                dsimp only at h
                split at h
                · exact ih _ _ _ _ _ _ (by simp at hl ⊢; omega) h (fun y hy => ht y (by simp [hy])) h1 (ht u (by simp))
                · cases h
            · cases h
        · split at h
          · next hc =>
            obtain ⟨k1, k2⟩ := Bool.and_eq_true_iff.1 hc
            have hf := (flag_or h1 (of_decide_eq_true k1) (by simpa using k2)).2
            cases r0 with
            | nil => cases h
            | cons v r2 =>
              dsimp only at h
              split at h
              · exact ih _ _ _ _ _ _ (by simp at hl ⊢; omega) h (fun y hy => ht y (by simp [hy])) hf h2
              · cases h
          · cases h
theorem take_in {p : Tok → Bool} {l r : List Tok} {t : Tok} (h : take p l = .ok r t) : t ∈ l ∧ p t = true ∧ ∀ x ∈ r, x ∈ l := by
  obtain ⟨rfl, hp⟩ := take_ok h
  exact ⟨List.mem_cons_self, hp, fun x hx => List.mem_cons_of_mem _ hx⟩
theorem opt_fine {s : ByteArray} {z : Nat} {l r : List Tok} {x : Nat} (h : opt s z l = .ok r x) (hl : ∀ t ∈ l, t.n ≤ capN) (hz : z ≤ capN) : x ≤ capN := by
  unfold opt at h
  split at h
  · obtain ⟨m1, y1, h1, h⟩ := bind_ok h
    obtain ⟨m2, y2, h2, h⟩ := bind_ok h
    cases h
    exact hl _ ((take_in h1).2.2 _ (take_in h2).1)
  · cases h
    exact hz
theorem command_le (s : ByteArray) : commandN s ≤ 27 := by
  unfold commandN
  split
  · omega
  · omega
theorem item_fine {r r2 : List Tok} {st st2 : St} {k : Nat} (h : item r st k = .ok r2 st2) (hk : k < 7) (hr : ∀ t ∈ r, t.n ≤ capN) (hf : Fine st) : Fine st2 ∧ ∀ t ∈ r2, t.n ≤ capN := by
  have hm : ∀ y ∈ r2, y ∈ r := by
    have ha : Among r ⟨[], [], []⟩ 0 := ⟨fun _ h => (by cases h), fun _ h => (by cases h), Nat.le_refl _, Nat.le_refl _, Nat.le_refl _⟩
    have h0 : ∃ st3, item r ⟨[], [], []⟩ k = .ok r2 st3 := by
      unfold item at h ⊢
      split
      · next e => rw [if_pos e] at h; obtain ⟨m, x, h1, h⟩ := bind_ok h; cases h; exact ⟨_, by rw [h1]; rfl⟩
      · next e =>
        rw [if_neg e] at h
        split
        · next e2 => rw [if_pos e2] at h; obtain ⟨m, x, h1, h⟩ := bind_ok h; cases h; exact ⟨_, by rw [h1]; rfl⟩
        · next e2 => rw [if_neg e2] at h; obtain ⟨m, x, h1, h⟩ := bind_ok h; cases h; exact ⟨_, by rw [h1]; rfl⟩
    obtain ⟨st3, h3⟩ := h0
    exact (item_among h3 (fun x hx => hx) ha).2
  refine ⟨?_, fun t ht => hr t (hm t ht)⟩
  unfold item at h
  split at h
  · obtain ⟨m, x, h1, h⟩ := bind_ok h
    cases h
    obtain ⟨m1, y1, g1, h1⟩ := bind_ok h1
    obtain ⟨m2, y2, g2, h1⟩ := bind_ok h1
    obtain ⟨m3, y3, g3, h1⟩ := bind_ok h1
    cases h1
    obtain ⟨w1, w2, w3⟩ := take_in g1
    obtain ⟨f1, f2⟩ := typLoop_fine _ _ _ _ _ _ _ (Nat.le_refl _) g3 (fun t ht => hr t (w3 _ ((take_in g2).2.2 _ ht))) (by decide) (Nat.zero_le _)
    refine ⟨fun t ht => ?_, hf.ruls, hf.quos⟩
    rcases List.mem_append.1 ht with ht | ht
    · exact hf.typs t ht
    · simp at ht
      subst ht
      exact ⟨by simpa [isWordT] using w2, f1, f2⟩
  · split at h
    · obtain ⟨m, x, h1, h⟩ := bind_ok h
      cases h
      obtain ⟨m1, y1, g1, h1⟩ := bind_ok h1
      obtain ⟨m2, y2, g2, h1⟩ := bind_ok h1
      obtain ⟨m3, y3, g3, h1⟩ := bind_ok h1
      obtain ⟨m4, y4, g4, h1⟩ := bind_ok h1
      obtain ⟨m5, y5, g5, h1⟩ := bind_ok h1
      obtain ⟨m6, y6, g6, h1⟩ := bind_ok h1
      obtain ⟨m7, y7, g7, h1⟩ := bind_ok h1
      cases h1
      have s1 := (take_in g1).2.2
      have s2 : ∀ t ∈ m2, t ∈ r := fun t ht => s1 _ ((take_in g2).2.2 _ ht)
      have s3 : ∀ t ∈ m3, t ∈ r := fun t ht => s2 _ (opt_mem g3 _ ht)
      have s4 : ∀ t ∈ m4, t ∈ r := fun t ht => s3 _ ((take_in g4).2.2 _ ht)
      have s5 : ∀ t ∈ m5, t ∈ r := fun t ht => s4 _ ((take_in g5).2.2 _ ht)
      refine ⟨hf.typs, hf.ruls, fun t ht => ?_⟩
      rcases List.mem_append.1 ht with ht | ht
      · exact hf.quos t ht
      · simp at ht
        subst ht
        refine ⟨?_, command_le _, hr _ (s1 _ (take_in g2).1), opt_fine g3 (fun t ht => hr t (s2 _ ht)) (Nat.zero_le _), hr _ (s4 _ (take_in g5).1), opt_fine g6 (fun t ht => hr t (s5 _ ht)) (by decide)⟩
        have := (take_in g1).2.1
        unfold isCommand at this
        exact of_decide_eq_true this
    · obtain ⟨m, x, h1, h⟩ := bind_ok h
      cases h
      obtain ⟨m1, y1, g1, h1⟩ := bind_ok h1
      obtain ⟨m2, y2, g2, h1⟩ := bind_ok h1
      obtain ⟨m3, y3, g3, h1⟩ := bind_ok h1
      obtain ⟨m4, y4, g4, h1⟩ := bind_ok h1
      cases h1
      refine ⟨hf.typs, fun t ht => ?_, hf.quos⟩
      rcases List.mem_append.1 ht with ht | ht
      · exact hf.ruls t ht
      · simp at ht
        subst ht
        dsimp only
        omega
theorem items_fine : ∀ (f : Nat) (l r : List Tok) (st st2 : St), items f l st = .ok r st2 → (∀ t ∈ l, t.n ≤ capN) → Fine st → Fine st2
  | 0, [], _, _, _, h, _, _ => by cases h
  | 0, _ :: _, _, _, _, h, _, _ => by cases h
  | f + 1, [], _, _, _, h, _, _ => by rw [items_end] at h; cases h
  | f + 1, t :: l, r, st, st2, h, hl, hf => by
    by_cases hc : isText wClose t = true
    · rw [items_close _ _ _ _ hc] at h
      cases h
      exact hf
    · rw [items_round _ _ _ _ (by simpa using hc)] at h
      split at h
      · next h7 =>
        obtain ⟨m, x, h1, h2⟩ := bind_ok h
        obtain ⟨h3, h4⟩ := item_fine h1 h7 (fun t ht => hl t (List.mem_cons_of_mem _ ht)) hf
        exact items_fine f m r x st2 h2 h4 h3
      · cases h
theorem policy_fine {l r : List Tok} {nm : Tok} {st : St} (h : policy l = .ok r (nm, st)) (hl : ∀ t ∈ l, t.n ≤ capN) : Fine st ∧ nm ∈ l ∧ nm.kind = 1 := by
  obtain ⟨m1, y1, h1, h⟩ := bind_ok h
  obtain ⟨m2, y2, h2, h⟩ := bind_ok h
  obtain ⟨m3, y3, h3, h⟩ := bind_ok h
  obtain ⟨m4, y4, h4, h⟩ := bind_ok h
  split at h
  · cases h
    obtain ⟨a1, a2, a3⟩ := take_in h1
    obtain ⟨b1, b2, b3⟩ := take_in h2
    obtain ⟨c1, c2, c3⟩ := take_in h3
    exact ⟨items_fine _ _ _ _ _ h4 (fun t ht => hl t (a3 _ (b3 _ (c3 _ ht)))) ⟨fun _ h => (by cases h), fun _ h => (by cases h), fun _ h => (by cases h)⟩, a3 _ b1, by simpa [isWordT] using b2⟩
  · cases h
theorem typIdx_not {b : List PTyp} {s : ByteArray} (h : ¬ typIdx b s < b.length) : s ∉ b.map fun x => x.name.text := by
  intro hm
  obtain ⟨x, hx, rfl⟩ := List.mem_map.1 hm
  exact h (List.findIdx_lt_length.2 ⟨x, hx, text_eq_iff.2 rfl⟩)
theorem typsOk_read : ∀ (l b : List PTyp), twice b l = [] → (∀ x ∈ l, LexP.Good x.name ∧ x.name.text.size ≤ 4000 ∧ x.name.kind = 1 ∧ x.flags < 128 ∧ x.life ≤ capN) → typsOk (b.map fun x => x.name.text) (l.map PTyp.typ) = true
  | [], _, _, _ => rfl
  | x :: l, b, h, hx => by
    unfold twice at h
    obtain ⟨h1, h2⟩ := List.append_eq_nil_iff.1 h
    have hn : ¬ typIdx b x.name.text < b.length := fun e => by rw [if_pos e] at h1; cases h1
    obtain ⟨g1, g2, g3, g4, g5⟩ := hx x (by simp)
    unfold capN at g5
    have ih := typsOk_read l (b ++ [x]) h2 fun y hy => hx y (by simp [hy])
    rw [List.map_append] at ih
    rw [List.map_cons, typsOk, Bool.and_eq_true]
    refine ⟨?_, ih⟩
    unfold typOk
    have m1 : memB x.name.text (b.map fun x => x.name.text) = false := by
      unfold memB
      rw [List.any_eq_false]
      intro y hy e
      exact typIdx_not hn (of_decide_eq_true e ▸ hy)
    have e1 : isWordB x.typ.name = true := isWordB_tok g1 g3 g2
    have e2 : memB x.typ.name (b.map fun x => x.name.text) = false := m1
    rw [e1, e2]
    have e3 : withinB 127 [x.typ.flags] = true := withinB_iff.2 fun y hy => by
      rw [List.mem_singleton.1 hy]
      show 0 ≤ (x.flags : Int) ∧ (x.flags : Int) ≤ 127
      omega
    have e4 : withinB 1099511627776 [x.typ.life] = true := withinB_iff.2 fun y hy => by
      rw [List.mem_singleton.1 hy]
      show 0 ≤ (x.life : Int) ∧ (x.life : Int) ≤ 1099511627776
      omega
    rw [e3, e4]
    rfl
theorem word_some {c : Nat} (h1 : 1 ≤ c) (h2 : c ≤ 27) : ((wordN (c : Int)).toList == []) = false := by
  have h : ((List.range 27).all fun j => !((wordN ((j + 1 : Nat) : Int)).toList == [])) = true := by kernel_rfl
  have h3 := List.all_eq_true.1 h (c - 1) (List.mem_range.2 (by omega))
  rw [show c - 1 + 1 = c by omega] at h3
  simpa using h3
theorem parse_ok {s : ByteArray} (h : (parse s).err = 0) : ∃ l nm st, tokens s = .ok l ∧ policy l = .ok [] (nm, st) ∧ wrongs st = [] ∧ (parse s).pol = ⟨nm.text, st.typs.map PTyp.typ, st.ruls.map (PRul.rul st.typs), st.quos.map PQuo.quo⟩ := by
  unfold parse at h ⊢
  cases ht : tokens s with
  | err a e =>
    rw [ht] at h
    exact absurd h (tokens_errs ht)
  | ok l =>
    rw [ht] at h
    dsimp only at h ⊢
    cases hp : policy l with
    | bad r =>
      rw [hp] at h
      cases r <;> cases h
    | ok r x =>
      obtain ⟨nm, st⟩ := x
      rw [hp] at h
      dsimp only at h ⊢
      have hr : r = [] := by
        obtain ⟨m1, y1, h1, h⟩ := bind_ok hp
        obtain ⟨m2, y2, h2, h⟩ := bind_ok h
        obtain ⟨m3, y3, h3, h⟩ := bind_ok h
        obtain ⟨m4, y4, h4, h⟩ := bind_ok h
        split at h
        · cases h; rfl
        · cases h
      cases hw : wrongs st with
      | cons a b =>
        rw [hw] at h
        cases h
      | nil =>
        subst hr
        exact ⟨l, nm, st, rfl, hp, hw, rfl⟩
/-- A policy that was read can be printed. -/
theorem parsed_ok {s : ByteArray} (h : (parse s).err = 0) : printableB (parse s).pol = true ∧ PolOk (parse s).pol := by
  obtain ⟨l, nm, st, ht, hp, hw, e⟩ := parse_ok h
  obtain ⟨f1, f2, f3⟩ := tokens_facts ht
  have hg := good_of_chain (tokens_chain s l ht).2
  have hcap : ∀ t ∈ l, t.n ≤ capN := fun t ht => by have := (hg t ht).val; unfold capN; omega
  obtain ⟨hF, hn1, hn2⟩ := policy_fine hp hcap
  have hA := policy_among hp
  unfold wrongs at hw
  obtain ⟨w1, w2⟩ := List.append_eq_nil_iff.1 hw
  rw [e]
  have hty := typsOk_read st.typs [] w1 fun x hx => ⟨hg _ (hA.typs x hx), (f3 _ (hA.typs x hx)).1, hF.typs x hx⟩
  have hmiss : ∀ r ∈ st.ruls, typIdx st.typs r.a.text < st.typs.length ∧ typIdx st.typs r.b.text < st.typs.length := fun r hr => by
    have h0 := List.flatMap_eq_nil_iff.1 w2 r hr
    unfold missing at h0
    obtain ⟨h1, h2⟩ := List.append_eq_nil_iff.1 h0
    exact ⟨Classical.byContradiction fun c => (by rw [if_neg c] at h1; cases h1), Classical.byContradiction fun c => (by rw [if_neg c] at h2; cases h2)⟩
  have hnt := hA.nt
  refine ⟨?_, ?_⟩
  · unfold printableB
    simp only [Bool.and_eq_true]
    refine ⟨⟨⟨isWordB_tok (hg _ hn1) hn2 (f3 _ hn1).1, hty⟩, ?_⟩, ?_⟩
    · rw [List.all_eq_true]
      intro x hx
      obtain ⟨r, hr, rfl⟩ := List.mem_map.1 hx
      obtain ⟨k1, k2⟩ := hF.ruls r hr
      obtain ⟨i1, i2⟩ := hmiss r hr
      unfold rulOk
      rw [Bool.and_eq_true]
      refine ⟨withinB_iff.2 fun y hy => ?_, withinB_iff.2 fun y hy => ?_⟩
      · rw [List.mem_singleton.1 hy]
        show 0 ≤ wrap64 ((r.kind : Int) - 1) ∧ wrap64 ((r.kind : Int) - 1) ≤ 4
        rw [wrap64]
        omega
      · rw [List.length_map]
        have hy : y = (PRul.rul st.typs r).a ∨ y = (PRul.rul st.typs r).b := by simpa using hy
        have ea : (PRul.rul st.typs r).a = (typIdx st.typs r.a.text : Int) := rfl
        have eb : (PRul.rul st.typs r).b = (typIdx st.typs r.b.text : Int) := rfl
        rcases hy with rfl | rfl <;> omega
    · rw [List.all_eq_true]
      intro x hx
      obtain ⟨q, hq, rfl⟩ := List.mem_map.1 hx
      obtain ⟨k1, k2, k3, k4, k5, k6⟩ := hF.quos q hq
      unfold capN at k3 k4 k5 k6
      unfold quoOk
      rw [Bool.and_eq_true]
      refine ⟨?_, withinB_iff.2 fun y hy => ?_⟩
      · have := word_some k1 k2
        show (!((wordN (q.cmd : Int)).toList == [])) = true
        rw [this]
        rfl
      · have hy : y = q.quo.count ∨ y = q.quo.delay ∨ y = q.quo.valid ∨ y = q.quo.uses := by simpa using hy
        have ea : q.quo.count = (q.count : Int) ∧ q.quo.delay = (q.delay : Int) ∧ q.quo.valid = (q.valid : Int) ∧ q.quo.uses = (q.uses : Int) := ⟨rfl, rfl, rfl, rfl⟩
        rcases hy with rfl | rfl | rfl | rfl <;> omega
  · refine ⟨?_, fun x hx => ?_, fun x hx => ?_, fun x hx => ?_, ?_, ?_, ?_⟩
    · have := (f3 _ hn1).1
      unfold maxLen
      exact Nat.le_trans this (by decide)
    · obtain ⟨t, htm, rfl⟩ := List.mem_map.1 hx
      obtain ⟨_, k2, k3⟩ := hF.typs t htm
      unfold capN at k3
      refine ⟨Nat.le_trans (f3 _ (hA.typs t htm)).1 (by unfold maxLen; decide), ?_, ?_⟩
      · show InI (t.flags : Int)
        unfold InI
        omega
      · show InI (t.life : Int)
        unfold InI
        omega
    · obtain ⟨r, hr, rfl⟩ := List.mem_map.1 hx
      obtain ⟨k1, k2⟩ := hF.ruls r hr
      obtain ⟨i1, i2⟩ := hmiss r hr
      refine ⟨?_, ?_, ?_⟩
      · show InI (r.kind : Int)
        unfold InI
        omega
      · show InI (typIdx st.typs r.a.text : Int)
        unfold InI
        omega
      · show InI (typIdx st.typs r.b.text : Int)
        unfold InI
        omega
    · obtain ⟨q, hq, rfl⟩ := List.mem_map.1 hx
      obtain ⟨k1, k2, k3, k4, k5, k6⟩ := hF.quos q hq
      unfold capN at k3 k4 k5 k6
      refine ⟨?_, ?_, ?_, ?_, ?_⟩
      · show InI (q.cmd : Int); unfold InI; omega
      · show InI (q.count : Int); unfold InI; omega
      · show InI (q.delay : Int); unfold InI; omega
      · show InI (q.valid : Int); unfold InI; omega
      · show InI (q.uses : Int); unfold InI; omega
    · dsimp only
      rw [List.length_map]
      omega
    · have := hA.nr
      dsimp only
      rw [List.length_map]
      omega
    · have := hA.nq
      dsimp only
      rw [List.length_map]
      omega
end Go.Proofs.YtemhiiignamkjaaDoor
namespace Go.Proofs.YtemhiiignamkjaaDoor
open Go.RowKit LexP ParP
attribute [local go_sem] Oper.semAt_some

/-- A call of Parse, its policy under letters. -/
theorem Parse_box (s : ByteArray) (w W : World) (hs : s.size ≤ maxLen) (hW : Tabs w) (hB : Below w.heap.size w W) (o : Out) (ho : parse s = o) : Calls Tryd.prog 10 #[.string s] W fun e w' =>
    ∃ nm At T ct Ar R cr Aq Q cq, e = .returned (.tuple #[.agg #[.string nm, .slice At T ct, .slice Ar R cr, .slice Aq Q cq], .int .i64 o.pos, .int .i64 o.err]) ∧
      PolAt w' w'.heap.size (.agg #[.string nm, .slice At T ct, .slice Ar R cr, .slice Aq Q cq]) o.pol ∧ Below W.heap.size W w' := by
  refine (Parse_at s W hs (hW.below hB) o ho).mono ?_
  rintro e w' ⟨At, ct, Ar, cr, Aq, cq, rfl, h1, h2⟩
  exact ⟨_, _, _, _, _, _, _, _, _, _, rfl, h1, h2⟩
theorem printP_lim {p : Pol} (h : printableB p = true) (h2 : (printP p).2 ≠ 0) : (printP p).1 = ⟨#[]⟩ ∧ (printP p).2 = 2 := by
  unfold printP at h2 ⊢
  rw [if_pos h] at h2 ⊢
  split
  · exact ⟨rfl, rfl⟩
  · next c => rw [if_neg c] at h2; exact absurd rfl h2
set_option maxRecDepth 100000 in
set_option maxHeartbeats 12800000 in
theorem law_canon (s : ByteArray) (w : World) (hs : s.size ≤ maxLen) (hW : Tabs w) (hpow : PowAt w) :
    Calls Tryd.prog 6 #[.string s] w fun e w' => e = .returned (.bool true) ∧ Below w.heap.size w w' := by
  have HW := Lib.hid hW
  have HP := Lib.hid hpow
  have HS := Lib.hid (fun W (h : Below w.heap.size w W) => sanity_any W (hW.below h) (hpow.below h))
  have hsH := Lib.hid hs
  by_cases hbig : 4000 < s.size
  · have d1 : decide (4000 < s.size) = true := decide_eq_true hbig
    have d2 : decide ((4000 : Int) < (s.size : Int)) = true := decide_eq_true (by omega)
    clear hs hW hpow hbig
    go_enter Tryd.func6, Tryd.ntmps6
    go_wp2_with fail
    refine (HS.out w (Below.refl _ _)).mono ?_
    rintro e w1 ⟨rfl, hB1⟩
    have B1 := Lib.hid hB1
    clear hB1
    go_wp2_with fail
    go_ret
    exact ⟨rfl, B1.out⟩
  · have d1 : decide (4000 < s.size) = false := decide_eq_false hbig
    have d2 : decide ((4000 : Int) < (s.size : Int)) = false := decide_eq_false (by omega)
    obtain ⟨o, ho⟩ : ∃ o, parse s = o := ⟨_, rfl⟩
    have HPA := Lib.hid (fun W (h : Below w.heap.size w W) => Parse_box s w W hs hW h o ho)
    have hok : Hid (o.err = 0 → printableB o.pol = true ∧ PolOk o.pol) := fun h => by
      rw [← ho] at h ⊢
      exact parsed_ok h
    clear hs hW hpow hbig ho
    obtain ⟨p, ps, er⟩ := o
    dsimp only at hok
    go_enter Tryd.func6, Tryd.ntmps6
    go_wp2_with fail
    refine (HPA.out w (Below.refl _ _)).mono ?_
    rintro e w1 ⟨nm, At, T, ct, Ar, R, cr, Aq, Q, cq, rfl, hp1, hB1⟩
    have P1 := Lib.hid hp1
    have B1 := Lib.hid hB1
    clear hp1 hB1 HPA
    go_upto_region 4 with fail
    refine world_is (P := fun W => Code.wp _ _ _ _ W) (fun W2 hW2 => ?_)
    have X2 : Hid (BoxAt w W2 w1.heap.size p nm At T ct Ar R cr Aq Q cq) := by
      have hB : Below w1.heap.size w1 W2 := by rw [← hW2]; exact (Below.refl _ _).alloc (Nat.le_refl _) _
      exact ⟨B1.out.trans (hB.mono B1.out.size), by rw [← hW2]; exact Blk.new _ _ _, (P1.out.below hB).mono hB.size⟩
    obtain ⟨g, hg⟩ : ∃ g, w1.heap.size = g := ⟨_, rfl⟩
    rw [hg] at X2 ⊢
    clear hW2 hg P1 B1
    by_cases he : er = 0
    · subst he
      obtain ⟨hpr, hOK⟩ := hok.out rfl
      have hOK := Lib.hid hOK
      have c0 := X2.out.box.cell 0
      have c1 := X2.out.box.cell 1
      have c2 := X2.out.box.cell 2
      have c3 := X2.out.box.cell 3
      have hprH := Lib.hid hpr
      clear hpr hok
      go_wp2_with fail
      refine (Print_any p _ W2 X2.out.pol hOK.out (HW.out.below X2.out.bel) (HP.out.below X2.out.bel)).mono ?_
      rintro e w3 ⟨rfl, hB3⟩
      have X3 := Lib.hid (X2.out.below hB3)
      clear hB3 X2 c0 c1 c2 c3
      by_cases he : (printP p).2 = 0
      · obtain ⟨h1, h2, h3⟩ := printP_ok he
        obtain ⟨J, hJ⟩ : ∃ J, (printP p).1 = J := ⟨_, rfl⟩
        have hJl : J.data.toList = printL p := by rw [← hJ, h3]
        have hJs : J.size ≤ 4000 := by rw [← blen, hJl]; exact h2
        obtain ⟨r1, r2⟩ := round_trip hOK.out h1 hJl hJs
        have ha : parse J = ⟨p, (parse J).pos, 0⟩ := out_is r1 r2
        obtain ⟨a, hax⟩ : ∃ a, (parse J).pos = a := ⟨_, rfl⟩
        rw [hax] at ha
        have HPA := Lib.hid (fun W (h : Below w.heap.size w W) => Parse_box J w W (by unfold maxLen; omega) HW.out h _ ha)
        have hPP : printP p = (J, 0) := Prod.ext hJ he
        have hPPH := Lib.hid hPP
        rw [hPP]
        clear h1 h2 h3 hJ hJl hJs r1 r2 ha hax he hPP
        go_wp2_with fail
        refine (HPA.out w3 X3.out.bel).mono ?_
        rintro e w4 ⟨nm2, At2, T2, ct2, Ar2, R2, cr2, Aq2, Q2, cq2, rfl, hp4, hB4⟩
        have X4 := Lib.hid (X3.out.below hB4)
        have P4 := Lib.hid hp4
        clear hB4 hp4 X3 HPA
        go_upto_region 10 with fail
        refine world_is (P := fun W => Code.wp _ _ _ _ W) (fun W5 hW5 => ?_)
        have hB5 : Below w4.heap.size w4 W5 := by rw [← hW5]; exact (Below.refl _ _).alloc (Nat.le_refl _) _
        have X5 := Lib.hid (X4.out.below hB5)
        have Y5 : Hid (BoxAt w W5 w4.heap.size p nm2 At2 T2 ct2 Ar2 R2 cr2 Aq2 Q2 cq2) := ⟨X5.out.bel, by rw [← hW5]; exact Blk.new _ _ _, (P4.out.below hB5).mono hB5.size⟩
        obtain ⟨k, hk⟩ : ∃ k, w4.heap.size = k := ⟨_, rfl⟩
        rw [hk] at Y5 ⊢
        clear hW5 hB5 X4 P4 hk
        have e0 := Y5.out.box.cell 0
        have e1 := Y5.out.box.cell 1
        have e2 := Y5.out.box.cell 2
        have e3 := Y5.out.box.cell 3
        go_wp2_with fail
        refine (Print_any p _ W5 Y5.out.pol hOK.out (HW.out.below Y5.out.bel) (HP.out.below Y5.out.bel)).mono ?_
        rintro e w6 ⟨rfl, hB6⟩
        rw [hPPH.out]
        have X6 := Lib.hid (X5.out.below hB6)
        have Y6 := Lib.hid (Y5.out.below hB6)
        clear hB6 X5 Y5 e0 e1 e2 e3
        go_wp2_with fail
        refine (HS.out w6 X6.out.bel).mono ?_
        rintro e w7 ⟨rfl, hB7⟩
        have X7 := Lib.hid (X6.out.below hB7)
        have Y7 := Lib.hid (Y6.out.below hB7)
        clear hB7 X6 Y6
        have c0 := X7.out.box.cell 0
        have c1 := X7.out.box.cell 1
        have c2 := X7.out.box.cell 2
        have c3 := X7.out.box.cell 3
        have e0 := Y7.out.box.cell 0
        have e1 := Y7.out.box.cell 1
        have e2 := Y7.out.box.cell 2
        have e3 := Y7.out.box.cell 3
        have HSM := Lib.hid (same_any p _ _ w7 X7.out.pol Y7.out.pol hOK.out)
        go_wp2_with fail
        refine HSM.out.mono ?_
        rintro e w8 ⟨rfl, hB8⟩
        have X8 := Lib.hid (X7.out.below hB8)
        clear hB8
        go_wp2_with fail
        go_ret
        exact ⟨rfl, X8.out.bel⟩
      · obtain ⟨h1, h2⟩ := printP_lim hprH.out he
        rw [h1, h2]
        clear h1 h2 he
        go_wp2_with fail
        refine (HS.out w3 X3.out.bel).mono ?_
        rintro e w4 ⟨rfl, hB4⟩
        have X4 := Lib.hid (X3.out.below hB4)
        clear hB4 X3
        go_wp2_with fail
        go_ret
        exact ⟨rfl, X4.out.bel⟩
    · have t0 : (er != 0) = true := by rw [bne_iff_ne]; exact he
      clear hok he
      go_wp2_with fail
      refine (HS.out W2 X2.out.bel).mono ?_
      rintro e w3 ⟨rfl, hB3⟩
      have X3 := Lib.hid (X2.out.below hB3)
      clear hB3 X2
      go_wp2_with fail
      go_ret
      exact ⟨rfl, X3.out.bel⟩
end Go.Proofs.YtemhiiignamkjaaDoor
namespace Go.Proofs.YtemhiiignamkjaaDoor
open Go.RowKit LexP ParP

/-- The bytes between tokens, by a number. -/
def gapB (k : Nat) : ByteArray := if k % 3 = 0 then ⟨#[32]⟩ else if k % 3 = 1 then ⟨#[10, 9]⟩ else ⟨#[35, 59, 10]⟩
def spacedL (k : Nat) (l : List Tok) : List UInt8 := l.flatMap fun t => t.text.data.toList ++ (gapB k).data.toList
theorem gap_comment : Gap [35, 59, 10] := fun x => by
  show skipB false (35 :: 59 :: 10 :: x) = 3 + skipB false x
  simp [skipB, isBlank]
  omega
theorem gapB_gap (k : Nat) : Gap (gapB k).data.toList ∧ Hd (gapB k).data.toList := by
  unfold gapB
  split
  · exact ⟨gap_blank fun c hc => by rw [List.mem_singleton.1 hc]; rfl, 32, [], rfl, s32⟩
  · split
    · refine ⟨gap_blank fun c hc => ?_, 10, [9], rfl, s10⟩
      have hc : c = 10 ∨ c = 9 := by simpa using hc
      rcases hc with rfl | rfl <;> rfl
    · exact ⟨gap_comment, 35, [59, 10], rfl, .inr (.inr (.inr (.inl rfl)))⟩
theorem spaced_lay (k : Nat) (l : List Tok) (hg : ∀ t ∈ l, LexP.Good t) : Lay (spacedL k l) l := by
  obtain ⟨g1, g2⟩ := gapB_gap k
  have h := pg_flat (f := fun t : Tok => t.text.data.toList ++ (gapB k).data.toList) (g := fun t => [t]) l fun t ht => pc_pg (us := []) (pc_tok (hg t ht)) (fun r m hl => lay_gap g1 hl) g2
  have h2 := pg_lay h
  have e : l.flatMap (fun t => [t]) = l := by
    induction l with
    | nil => rfl
    | cons a l ih => rw [List.flatMap_cons, ih (fun t ht => hg t (by simp [ht])) (pg_flat l fun t ht => pc_pg (us := []) (pc_tok (hg t (by simp [ht]))) (fun r m hl => lay_gap g1 hl) g2) (pg_lay (pg_flat l fun t ht => pc_pg (us := []) (pc_tok (hg t (by simp [ht]))) (fun r m hl => lay_gap g1 hl) g2))]; rfl
  rwa [e] at h2
/-- The same policy and the same error. -/
theorem space_same {s J : ByteArray} {l : List Tok} (k : Nat) (h : tokens s = .ok l) (hJ : J.data.toList = spacedL k l) (hs : J.size ≤ 4000) : (parse J).pol = (parse s).pol ∧ (parse J).err = (parse s).err := by
  have hg := good_of_chain (tokens_chain s l h).2
  obtain ⟨m, hm, he⟩ := lay_tokens J (hJ ▸ spaced_lay k l hg) hs
  obtain ⟨a1, a2⟩ := parse_pe hm
  obtain ⟨b1, b2⟩ := parse_pe h
  rw [a1, a2, b1, b2, pe_same he]
  exact ⟨rfl, rfl⟩
theorem parse_pol_no {s : ByteArray} (h : (parse s).err ≠ 0) : (parse s).pol = noPol := by
  unfold parse at h ⊢
  cases ht : tokens s with
  | err a e => rfl
  | ok l =>
    rw [ht] at h
    dsimp only at h ⊢
    cases hp : policy l with
    | bad r => cases r <;> rfl
    | ok r x =>
      rw [hp] at h
      dsimp only at h ⊢
      cases hw : least (wrongs x.2) with
      | some a => rfl
      | none => rw [hw] at h; exact absurd rfl h
theorem parse_polOk (s : ByteArray) : PolOk (parse s).pol := by
  by_cases h : (parse s).err = 0
  · exact (parsed_ok h).2
  · rw [parse_pol_no h]
    exact ⟨by unfold noPol maxLen; decide, fun t ht => (by cases ht), fun t ht => (by cases ht), fun t ht => (by cases ht), by decide, by decide, by decide⟩
end Go.Proofs.YtemhiiignamkjaaDoor
namespace Go.Proofs.YtemhiiignamkjaaDoor
open Go.RowKit LexP ParP
attribute [local go_sem] Oper.semAt_some

theorem spacedL_snoc {k : Nat} {l : List Tok} {i : Nat} {t : Tok} (h : l[i]? = some t) : spacedL k (l.take (i + 1)) = spacedL k (l.take i) ++ (t.text.data.toList ++ (gapB k).data.toList) := flat_snoc _ h
theorem app_data (a b : ByteArray) : (a ++ b).data.toList = a.data.toList ++ b.data.toList := by rw [ByteArray.data_append, Array.toList_append]
theorem gapB_size (k : Nat) : (gapB k).size ≤ 3 := by
  unfold gapB
  split
  · decide
  · split <;> decide
set_option maxRecDepth 100000 in
set_option maxHeartbeats 12800000 in
theorem law_space (s : ByteArray) (a : UInt8) (w : World) (hs : s.size ≤ maxLen) (hW : Tabs w) (hpow : PowAt w) :
    Calls Tryd.prog 7 #[.string s, .int .u8 (a.toNat : Int)] w fun e w' => e = .returned (.bool true) ∧ Below w.heap.size w w' := by
  have HW := Lib.hid hW
  have HS := Lib.hid (fun W (h : Below w.heap.size w W) => sanity_any W (hW.below h) (hpow.below h))
  have hsH := Lib.hid hs
  obtain ⟨k, hk⟩ : ∃ k, a.toNat = k := ⟨_, rfl⟩
  have hk256 : k < 256 := by rw [← hk]; exact a.toNat_lt
  rw [hk]
  clear hk
  by_cases hbig : 2000 < s.size
  · have d1 : decide (2000 < s.size) = true := decide_eq_true hbig
    have d2 : decide ((2000 : Int) < (s.size : Int)) = true := decide_eq_true (by omega)
    clear hs hW hpow hbig
    go_enter Tryd.func7, Tryd.ntmps7
    go_wp2_with fail
    refine (HS.out w (Below.refl _ _)).mono ?_
    rintro e w1 ⟨rfl, hB1⟩
    have B1 := Lib.hid hB1
    clear hB1
    go_wp2_with fail
    go_ret
    exact ⟨rfl, B1.out⟩
  · have d1 : decide (2000 < s.size) = false := decide_eq_false hbig
    have d2 : decide ((2000 : Int) < (s.size : Int)) = false := decide_eq_false (by omega)
    have HR := Lib.hid (ref_Tokens_any s w (by omega))
    clear hs hW hpow hbig
    go_enter Tryd.func7, Tryd.ntmps7
    go_wp2_with fail
    refine HR.out.mono ?_
    rintro e w1 ⟨v, pos, err, rfl, hres, hB1⟩
    have B1 := Lib.hid hB1
    clear hB1 HR
    cases htk : tokens s with
    | err a0 e0 =>
      rw [htk] at hres
      obtain ⟨rfl, rfl, rfl⟩ := hres
      have t0 : (err != 0) = true := by rw [bne_iff_ne]; exact tokens_errs htk
      clear htk
      go_upto_region 4 with fail
      refine world_is (P := fun W => Code.wp _ _ _ _ W) (fun W2 hW2 => ?_)
      have X2 : Hid (Blk W2 w1.heap.size 44 #[.slice none 0 0, .int .i64 (a0 : Int), .int .i64 err]) := by unfold Hid; rw [← hW2]; exact Blk.new _ _ _
      have B2 : Hid (Below w.heap.size w W2) := by unfold Hid; rw [← hW2]; exact B1.out.alloc B1.out.size _
      obtain ⟨g, hg⟩ : ∃ g, w1.heap.size = g := ⟨_, rfl⟩
      rw [hg] at X2 ⊢
      have c2 := X2.out.cell 2
      clear hW2 hg B1
      go_wp2_with fail
      refine (HS.out W2 B2.out).mono ?_
      rintro e w3 ⟨rfl, hB3⟩
      have B3 : Hid (Below w.heap.size w w3) := B2.out.trans (hB3.mono B2.out.size)
      clear hB3
      go_wp2_with fail
      go_ret
      exact ⟨rfl, B3.out⟩
    | ok l =>
      rw [htk] at hres
      obtain ⟨rfl, rfl, hown⟩ := hres
      have hT1 := tkAt_own hown
      obtain ⟨A, c, rfl⟩ := own_slice hown
      have T1 := Lib.hid hT1
      obtain ⟨f1, f2, f3⟩ := tokens_facts htk
      have htkH := Lib.hid htk
      have f3H := Lib.hid f3
      obtain ⟨n, hn⟩ : ∃ n, l.length = n := ⟨_, rfl⟩
      have hnH := Lib.hid hn
      have hn4 : n ≤ 4000 := by omega
      rw [hn]
      clear htk hown hT1 hn f1 f2 f3
      go_upto_region 4 with fail
      refine world_is (P := fun W => Code.wp _ _ _ _ W) (fun W2 hW2 => ?_)
      have X2 : Hid (Blk W2 w1.heap.size 44 #[.slice A n c, .int .i64 0, .int .i64 0]) := by unfold Hid; rw [← hW2]; exact Blk.new _ _ _
      have B2 : Hid (Below w.heap.size w W2) := by unfold Hid; rw [← hW2]; exact B1.out.alloc B1.out.size _
      have T2 : Hid (TkAt W2 w1.heap.size (.slice A l.length c) l) := T1.out.below (by rw [← hW2]; exact (Below.refl _ _).alloc (Nat.le_refl _) _)
      obtain ⟨g, hg⟩ : ∃ g, w1.heap.size = g := ⟨_, rfl⟩
      rw [hg] at X2 T2 ⊢
      have c0 := X2.out.cell 0
      have c2 := X2.out.cell 2
      clear hW2 hg B1 T1
      go_wp2_with fail
      go_loopw [6, 7] (fun v6 v7 wr => ∃ (S : ByteArray) (i : Nat), v6 = .string S ∧ v7 = .int .i64 i ∧ i ≤ n ∧ Hid (S.data.toList = spacedL k (l.take i)) ∧ Hid (S.size ≤ 5000 * i) ∧ wr = W2) (fun _ v7 _ => n - (intOf v7).toNat)
      case atStart => exact ⟨_, 0, rfl, rfl, Nat.zero_le _, rfl, Nat.zero_le _, rfl⟩
      case round =>
      obtain ⟨S, i, rfl, rfl, hi, hSd, hSs, hwr⟩ := hrel
      rw [hwr]
      clear hwr
      by_cases hlt : i < n
      · have e1 : decide (i < n) = true := decide_eq_true hlt
        have e2 : decide ((i : Int) < (n : Int)) = true := decide_eq_true (by omega)
        obtain ⟨T, hT⟩ : ∃ T, l[i]? = some T := ⟨_, List.getElem?_eq_getElem (by rw [hnH.out]; exact hlt)⟩
        obtain ⟨tb, tf, rfl, _, _, k1, _, _⟩ := T2.out.at_ i T hT
        have q0 : (0 : Int) ≤ (i : Int) := by omega
        have q1 : (i : Int) < (n : Int) := by omega
        have q2 : (n : Int) ≤ 4000 := by omega
        have hltH := Lib.hid hlt
        have hTs := Lib.hid ((f3H.out T (List.mem_of_getElem? hT)).1)
        have hsn := Lib.hid (spacedL_snoc (k := k) hT)
        have hi4 : Hid (i < 4000) := by unfold Hid; omega
        obtain ⟨tx, htx⟩ : ∃ t, T.text = t := ⟨_, rfl⟩
        rw [htx] at k1 hTs hsn
        obtain ⟨U, hU⟩ : ∃ U, S ++ tx = U := ⟨_, rfl⟩
        have a1 : ∀ wx, (Op.stringOp .add S tx).run Tryd.prog wx = .ok (.string U) wx := fun wx => by
          rw [← hU]
          exact run_string_add_sum wx _ _ (by have := hSs.out; have := hTs.out; have := hi4.out; omega)
        obtain ⟨V, hV⟩ : ∃ V, U ++ gapB k = V := ⟨_, rfl⟩
        have hVd : Hid (V.data.toList = spacedL k (l.take (i + 1))) := by
          unfold Hid
          rw [← hV, ← hU, app_data, app_data, hSd.out, hsn.out, List.append_assoc]
        have hgs := gapB_size k
        have hUs : U.size = S.size + tx.size := by rw [← hU, ByteArray.size_append]
        have hVs : Hid (V.size ≤ 5000 * (i + 1)) := by
          unfold Hid
          rw [← hV, ByteArray.size_append]
          have := hSs.out
          have := hTs.out
          omega
        have a2 : ∀ wx, (Op.stringOp .add U (gapB k)).run Tryd.prog wx = .ok (.string V) wx := fun wx => by
          rw [← hV]
          exact run_string_add_sum wx _ _ (by have := hSs.out; have := hTs.out; have := hi4.out; omega)
        clear hT hlt htx hU hV hUs hgs
        by_cases hk0 : k % 3 = 0
        · have hg : gapB k = ⟨#[32]⟩ := by unfold gapB; rw [if_pos hk0]
          have m1 : (k : Int).tmod 3 = 0 := by rw [Int.tmod_eq_emod_of_nonneg (by omega)]; omega
          rw [hg] at a2
          clear hg hk0
          go_wp2_with fail
          go_roundw
          case rel => exact ⟨V, i + 1, rfl, by go_num, hltH.out, hVd.out, hVs.out, trivial⟩
          case measure => have := hltH.out; simp [intOf]; omega
        · by_cases hk1 : k % 3 = 1
          · have hg : gapB k = ⟨#[10, 9]⟩ := by unfold gapB; rw [if_neg hk0, if_pos hk1]
            have m1 : (k : Int).tmod 3 = 1 := by rw [Int.tmod_eq_emod_of_nonneg (by omega)]; omega
            rw [hg] at a2
            clear hg hk0 hk1
            go_wp2_with fail
            go_roundw
            case rel => exact ⟨V, i + 1, rfl, by go_num, hltH.out, hVd.out, hVs.out, trivial⟩
            case measure => have := hltH.out; simp [intOf]; omega
          · have hg : gapB k = ⟨#[35, 59, 10]⟩ := by unfold gapB; rw [if_neg hk0, if_neg hk1]
            have m1 : (k : Int).tmod 3 = 2 := by rw [Int.tmod_eq_emod_of_nonneg (by omega)]; omega
            rw [hg] at a2
            clear hg hk0 hk1
            go_wp2_with fail
            go_roundw
            case rel => exact ⟨V, i + 1, rfl, by go_num, hltH.out, hVd.out, hVs.out, trivial⟩
            case measure => have := hltH.out; simp [intOf]; omega
      · have e1 : decide (i < n) = false := decide_eq_false hlt
        have e2 : decide ((i : Int) < (n : Int)) = false := decide_eq_false (by omega)
        have hJd : Hid (S.data.toList = spacedL k l) := by
          unfold Hid
          rw [hSd.out, List.take_of_length_le (by rw [hnH.out]; omega)]
        clear hlt hSd hSs
        by_cases hbig : 4000 < S.size
        · have d3 : decide (4000 < S.size) = true := decide_eq_true hbig
          have d4 : decide ((4000 : Int) < (S.size : Int)) = true := decide_eq_true (by omega)
          clear hbig
          go_wp2_with fail
          refine (HS.out W2 B2.out).mono ?_
          rintro e w3 ⟨rfl, hB3⟩
          have B3 : Hid (Below w.heap.size w w3) := B2.out.trans (hB3.mono B2.out.size)
          clear hB3
          go_wp2_with fail
          go_ret
          exact ⟨rfl, B3.out⟩
        · have d3 : decide (4000 < S.size) = false := decide_eq_false hbig
          have d4 : decide ((4000 : Int) < (S.size : Int)) = false := decide_eq_false (by omega)
          obtain ⟨r1, r2⟩ := space_same k htkH.out hJd.out (by omega)
          obtain ⟨p, hp⟩ : ∃ p, (parse s).pol = p := ⟨_, rfl⟩
          obtain ⟨er, her⟩ : ∃ p, (parse s).err = p := ⟨_, rfl⟩
          obtain ⟨p1, hp1⟩ : ∃ p, (parse s).pos = p := ⟨_, rfl⟩
          obtain ⟨p2, hp2⟩ : ∃ p, (parse S).pos = p := ⟨_, rfl⟩
          have hOK : Hid (PolOk p) := by unfold Hid; rw [← hp]; exact parse_polOk s
          rw [hp] at r1
          rw [her] at r2
          have e3 : parse s = ⟨p, p1, er⟩ := by rw [← hp, ← hp1, ← her]
          have e4 : parse S = ⟨p, p2, er⟩ := by rw [← r1, ← hp2, ← r2]
          have HP1 := Lib.hid (fun W (h : Below w.heap.size w W) => Parse_box s w W hsH.out HW.out h _ e3)
          have HP2 := Lib.hid (fun W (h : Below w.heap.size w W) => Parse_box S w W (by unfold maxLen; omega) HW.out h _ e4)
          clear r1 r2 hp her hp1 hp2 e3 e4 hbig
          go_wp2_with fail
          refine (HP1.out W2 B2.out).mono ?_
          rintro e w3 ⟨nm, At, T, ct, Ar, R, cr, Aq, Q, cq, rfl, hp3, hB3⟩
          have P3 := Lib.hid hp3
          have B3 : Hid (Below w.heap.size w w3) := B2.out.trans (hB3.mono B2.out.size)
          clear hp3 hB3 HP1
          go_upto_region 20 with fail
          refine world_is (P := fun W => Code.wp _ _ _ _ W) (fun W4 hW4 => ?_)
          have X4 : Hid (BoxAt w W4 w3.heap.size p nm At T ct Ar R cr Aq Q cq) := by
            have hB : Below w3.heap.size w3 W4 := by rw [← hW4]; exact (Below.refl _ _).alloc (Nat.le_refl _) _
            exact ⟨B3.out.trans (hB.mono B3.out.size), by rw [← hW4]; exact Blk.new _ _ _, (P3.out.below hB).mono hB.size⟩
          obtain ⟨g1, hg1⟩ : ∃ g, w3.heap.size = g := ⟨_, rfl⟩
          rw [hg1] at X4 ⊢
          clear hW4 hg1 P3 B3
          go_wp2_with fail
          refine (HP2.out W4 X4.out.bel).mono ?_
          rintro e w5 ⟨nm2, At2, T2, ct2, Ar2, R2, cr2, Aq2, Q2, cq2, rfl, hp5, hB5⟩
          have X5 := Lib.hid (X4.out.below hB5)
          have P5 := Lib.hid hp5
          clear hB5 hp5 X4 HP2
          go_upto_region 21 with fail
          refine world_is (P := fun W => Code.wp _ _ _ _ W) (fun W6 hW6 => ?_)
          have hB6 : Below w5.heap.size w5 W6 := by rw [← hW6]; exact (Below.refl _ _).alloc (Nat.le_refl _) _
          have X6 := Lib.hid (X5.out.below hB6)
          have Y6 : Hid (BoxAt w W6 w5.heap.size p nm2 At2 T2 ct2 Ar2 R2 cr2 Aq2 Q2 cq2) := ⟨X6.out.bel, by rw [← hW6]; exact Blk.new _ _ _, (P5.out.below hB6).mono hB6.size⟩
          obtain ⟨g2, hg2⟩ : ∃ g, w5.heap.size = g := ⟨_, rfl⟩
          rw [hg2] at Y6 ⊢
          clear hW6 hB6 X5 P5 hg2
          go_wp2_with fail
          refine (HS.out W6 X6.out.bel).mono ?_
          rintro e w7 ⟨rfl, hB7⟩
          have X7 := Lib.hid (X6.out.below hB7)
          have Y7 := Lib.hid (Y6.out.below hB7)
          clear hB7 X6 Y6
          have c0 := X7.out.box.cell 0
          have c1 := X7.out.box.cell 1
          have c2 := X7.out.box.cell 2
          have c3 := X7.out.box.cell 3
          have e0 := Y7.out.box.cell 0
          have e1 := Y7.out.box.cell 1
          have e2 := Y7.out.box.cell 2
          have e3 := Y7.out.box.cell 3
          have HSM := Lib.hid (same_any p _ _ w7 X7.out.pol Y7.out.pol hOK.out)
          go_wp2_with fail
          refine HSM.out.mono ?_
          rintro e w8 ⟨rfl, hB8⟩
          have X8 := Lib.hid (X7.out.below hB8)
          clear hB8
          go_wp2_with fail
          go_ret
          exact ⟨rfl, X8.out.bel⟩
end Go.Proofs.YtemhiiignamkjaaDoor
