/-
  Layer 12 (parse): a policy that was read can be printed (plain).
-/
import Derived.Test.YtemhiiignamkjaaDoorMB
namespace Go.Proofs.YtemhiiignamkjaaDoor
open Go.RowKit LexP ParP

def capN : Nat := 1099511627776
theorem er_list_one {m : List Tok} {t : Tok} (h : m.map er = [er t]) : ∃ u, m = [u] ∧ u.kind = t.kind ∧ u.text = t.text := by
  match m, h with
  | [u], h =>
    simp only [List.map_cons, List.map_nil, List.cons.injEq, and_true] at h
    unfold er at h
    injection h with h1 h2 h3 h4
    exact ⟨u, rfl, h1, h2⟩
  | [], h => cases h
  | _ :: _ :: _, h => simp at h
theorem isWordB_tok {t : Tok} (hg : LexP.Good t) (hk : t.kind = 1) (hs : t.text.size ≤ 4000) : isWordB t.text = true := by
  have hl : Lay t.text.data.toList [t] := by
    have := Lay.cons [] t [] [] gap_nil hg soft_nil3 (.nil [] gap_nil)
    rwa [List.nil_append, List.append_nil] at this
  obtain ⟨m, hm, he⟩ := lay_tokens t.text hl hs
  obtain ⟨u, rfl, h1, h2⟩ := er_list_one he
  unfold isWordB
  rw [hm]
  show (decide (u.kind = 1) && (u.text.toList == t.text.toList)) = true
  rw [h1, hk, h2]
  simp
/-- The numbers of what was read. -/
structure Fine (st : St) : Prop where
  typs : ∀ x ∈ st.typs, x.name.kind = 1 ∧ x.flags < 128 ∧ x.life ≤ capN
  ruls : ∀ x ∈ st.ruls, 1 ≤ x.kind ∧ x.kind ≤ 5
  quos : ∀ x ∈ st.quos, 1 ≤ x.cmd ∧ x.cmd ≤ 27 ∧ x.count ≤ capN ∧ x.delay ≤ capN ∧ x.valid ≤ capN ∧ x.uses ≤ capN
theorem typLoop_fine : ∀ (N : Nat) (l : List Tok) (fl lf : Nat) (lb : Bool) (r : List Tok) (x : Nat × Nat), l.length ≤ N → typLoop l fl lf lb = .ok r x → (∀ t ∈ l, t.n ≤ capN) → fl < 128 → lf ≤ capN → x.1 < 128 ∧ x.2 ≤ capN := by
  intro N
  induction N with
  | zero =>
    intro l fl lf lb r x hl h
    have : l = [] := List.eq_nil_of_length_eq_zero (Nat.le_zero.1 hl)
    subst this
    rw [typLoop.eq_def] at h
    cases h
  | succ N ih =>
    intro l fl lf lb r x hl h ht h1 h2
    cases l with
    | nil => rw [typLoop.eq_def] at h; cases h
    | cons t r0 =>
      rw [typLoop.eq_def] at h
      dsimp only at h
      split at h
      · cases h; exact ⟨h1, h2⟩
      · split at h
        · cases r0 with
          | nil => cases h
          | cons u r2 =>
            dsimp only at h
            split at h
            · cases r2 with
              | nil => cases h
              | cons v r3 =>
                dsimp only at h
                split at h
                · exact ih _ _ _ _ _ _ (by simp at hl ⊢; omega) h (fun y hy => ht y (by simp [hy])) h1 (ht u (by simp))
                · cases h
            · cases h
        · split at h
          · next hc =>
            obtain ⟨k1, k2⟩ := Bool.and_eq_true_iff.1 hc
            have hf := (flag_or h1 (of_decide_eq_true k1) (by simpa using k2)).2
            cases r0 with
            | nil => cases h
            | cons v r2 =>
              dsimp only at h
              split at h
              · exact ih _ _ _ _ _ _ (by simp at hl ⊢; omega) h (fun y hy => ht y (by simp [hy])) hf h2
              · cases h
          · cases h
theorem take_in {p : Tok → Bool} {l r : List Tok} {t : Tok} (h : take p l = .ok r t) : t ∈ l ∧ p t = true ∧ ∀ x ∈ r, x ∈ l := by
  obtain ⟨rfl, hp⟩ := take_ok h
  exact ⟨List.mem_cons_self, hp, fun x hx => List.mem_cons_of_mem _ hx⟩
theorem opt_fine {s : ByteArray} {z : Nat} {l r : List Tok} {x : Nat} (h : opt s z l = .ok r x) (hl : ∀ t ∈ l, t.n ≤ capN) (hz : z ≤ capN) : x ≤ capN := by
  unfold opt at h
  split at h
  · obtain ⟨m1, y1, h1, h⟩ := bind_ok h
    obtain ⟨m2, y2, h2, h⟩ := bind_ok h
    cases h
    exact hl _ ((take_in h1).2.2 _ (take_in h2).1)
  · cases h
    exact hz
theorem command_le (s : ByteArray) : commandN s ≤ 27 := by
  unfold commandN
  split
  · omega
  · omega
theorem item_fine {r r2 : List Tok} {st st2 : St} {k : Nat} (h : item r st k = .ok r2 st2) (hk : k < 7) (hr : ∀ t ∈ r, t.n ≤ capN) (hf : Fine st) : Fine st2 ∧ ∀ t ∈ r2, t.n ≤ capN := by
  have hm : ∀ y ∈ r2, y ∈ r := by
    have ha : Among r ⟨[], [], []⟩ 0 := ⟨fun _ h => (by cases h), fun _ h => (by cases h), Nat.le_refl _, Nat.le_refl _, Nat.le_refl _⟩
    have h0 : ∃ st3, item r ⟨[], [], []⟩ k = .ok r2 st3 := by
      unfold item at h ⊢
      split
      · next e => rw [if_pos e] at h; obtain ⟨m, x, h1, h⟩ := bind_ok h; cases h; exact ⟨_, by rw [h1]; rfl⟩
      · next e =>
        rw [if_neg e] at h
        split
        · next e2 => rw [if_pos e2] at h; obtain ⟨m, x, h1, h⟩ := bind_ok h; cases h; exact ⟨_, by rw [h1]; rfl⟩
        · next e2 => rw [if_neg e2] at h; obtain ⟨m, x, h1, h⟩ := bind_ok h; cases h; exact ⟨_, by rw [h1]; rfl⟩
    obtain ⟨st3, h3⟩ := h0
    exact (item_among h3 (fun x hx => hx) ha).2
  refine ⟨?_, fun t ht => hr t (hm t ht)⟩
  unfold item at h
  split at h
  · obtain ⟨m, x, h1, h⟩ := bind_ok h
    cases h
    obtain ⟨m1, y1, g1, h1⟩ := bind_ok h1
    obtain ⟨m2, y2, g2, h1⟩ := bind_ok h1
    obtain ⟨m3, y3, g3, h1⟩ := bind_ok h1
    cases h1
    obtain ⟨w1, w2, w3⟩ := take_in g1
    obtain ⟨f1, f2⟩ := typLoop_fine _ _ _ _ _ _ _ (Nat.le_refl _) g3 (fun t ht => hr t (w3 _ ((take_in g2).2.2 _ ht))) (by decide) (Nat.zero_le _)
    refine ⟨fun t ht => ?_, hf.ruls, hf.quos⟩
    rcases List.mem_append.1 ht with ht | ht
    · exact hf.typs t ht
    · simp at ht
      subst ht
      exact ⟨by simpa [isWordT] using w2, f1, f2⟩
  · split at h
    · obtain ⟨m, x, h1, h⟩ := bind_ok h
      cases h
      obtain ⟨m1, y1, g1, h1⟩ := bind_ok h1
      obtain ⟨m2, y2, g2, h1⟩ := bind_ok h1
      obtain ⟨m3, y3, g3, h1⟩ := bind_ok h1
      obtain ⟨m4, y4, g4, h1⟩ := bind_ok h1
      obtain ⟨m5, y5, g5, h1⟩ := bind_ok h1
      obtain ⟨m6, y6, g6, h1⟩ := bind_ok h1
      obtain ⟨m7, y7, g7, h1⟩ := bind_ok h1
      cases h1
      have s1 := (take_in g1).2.2
      have s2 : ∀ t ∈ m2, t ∈ r := fun t ht => s1 _ ((take_in g2).2.2 _ ht)
      have s3 : ∀ t ∈ m3, t ∈ r := fun t ht => s2 _ (opt_mem g3 _ ht)
      have s4 : ∀ t ∈ m4, t ∈ r := fun t ht => s3 _ ((take_in g4).2.2 _ ht)
      have s5 : ∀ t ∈ m5, t ∈ r := fun t ht => s4 _ ((take_in g5).2.2 _ ht)
      refine ⟨hf.typs, hf.ruls, fun t ht => ?_⟩
      rcases List.mem_append.1 ht with ht | ht
      · exact hf.quos t ht
      · simp at ht
        subst ht
        refine ⟨?_, command_le _, hr _ (s1 _ (take_in g2).1), opt_fine g3 (fun t ht => hr t (s2 _ ht)) (Nat.zero_le _), hr _ (s4 _ (take_in g5).1), opt_fine g6 (fun t ht => hr t (s5 _ ht)) (by decide)⟩
        have := (take_in g1).2.1
        unfold isCommand at this
        exact of_decide_eq_true this
    · obtain ⟨m, x, h1, h⟩ := bind_ok h
      cases h
      obtain ⟨m1, y1, g1, h1⟩ := bind_ok h1
      obtain ⟨m2, y2, g2, h1⟩ := bind_ok h1
      obtain ⟨m3, y3, g3, h1⟩ := bind_ok h1
      obtain ⟨m4, y4, g4, h1⟩ := bind_ok h1
      cases h1
      refine ⟨hf.typs, fun t ht => ?_, hf.quos⟩
      rcases List.mem_append.1 ht with ht | ht
      · exact hf.ruls t ht
      · simp at ht
        subst ht
        dsimp only
        omega
theorem items_fine : ∀ (f : Nat) (l r : List Tok) (st st2 : St), items f l st = .ok r st2 → (∀ t ∈ l, t.n ≤ capN) → Fine st → Fine st2
  | 0, [], _, _, _, h, _, _ => by cases h
  | 0, _ :: _, _, _, _, h, _, _ => by cases h
  | f + 1, [], _, _, _, h, _, _ => by rw [items_end] at h; cases h
  | f + 1, t :: l, r, st, st2, h, hl, hf => by
    by_cases hc : isText wClose t = true
    · rw [items_close _ _ _ _ hc] at h
      cases h
      exact hf
    · rw [items_round _ _ _ _ (by simpa using hc)] at h
      split at h
      · next h7 =>
        obtain ⟨m, x, h1, h2⟩ := bind_ok h
        obtain ⟨h3, h4⟩ := item_fine h1 h7 (fun t ht => hl t (List.mem_cons_of_mem _ ht)) hf
        exact items_fine f m r x st2 h2 h4 h3
      · cases h
theorem policy_fine {l r : List Tok} {nm : Tok} {st : St} (h : policy l = .ok r (nm, st)) (hl : ∀ t ∈ l, t.n ≤ capN) : Fine st ∧ nm ∈ l ∧ nm.kind = 1 := by
  obtain ⟨m1, y1, h1, h⟩ := bind_ok h
  obtain ⟨m2, y2, h2, h⟩ := bind_ok h
  obtain ⟨m3, y3, h3, h⟩ := bind_ok h
  obtain ⟨m4, y4, h4, h⟩ := bind_ok h
  split at h
  · cases h
    obtain ⟨a1, a2, a3⟩ := take_in h1
    obtain ⟨b1, b2, b3⟩ := take_in h2
    obtain ⟨c1, c2, c3⟩ := take_in h3
    exact ⟨items_fine _ _ _ _ _ h4 (fun t ht => hl t (a3 _ (b3 _ (c3 _ ht)))) ⟨fun _ h => (by cases h), fun _ h => (by cases h), fun _ h => (by cases h)⟩, a3 _ b1, by simpa [isWordT] using b2⟩
  · cases h
theorem typIdx_not {b : List PTyp} {s : ByteArray} (h : ¬ typIdx b s < b.length) : s ∉ b.map fun x => x.name.text := by
  intro hm
  obtain ⟨x, hx, rfl⟩ := List.mem_map.1 hm
  exact h (List.findIdx_lt_length.2 ⟨x, hx, text_eq_iff.2 rfl⟩)
theorem typsOk_read : ∀ (l b : List PTyp), twice b l = [] → (∀ x ∈ l, LexP.Good x.name ∧ x.name.text.size ≤ 4000 ∧ x.name.kind = 1 ∧ x.flags < 128 ∧ x.life ≤ capN) → typsOk (b.map fun x => x.name.text) (l.map PTyp.typ) = true
  | [], _, _, _ => rfl
  | x :: l, b, h, hx => by
    unfold twice at h
    obtain ⟨h1, h2⟩ := List.append_eq_nil_iff.1 h
    have hn : ¬ typIdx b x.name.text < b.length := fun e => by rw [if_pos e] at h1; cases h1
    obtain ⟨g1, g2, g3, g4, g5⟩ := hx x (by simp)
    unfold capN at g5
    have ih := typsOk_read l (b ++ [x]) h2 fun y hy => hx y (by simp [hy])
    rw [List.map_append] at ih
    rw [List.map_cons, typsOk, Bool.and_eq_true]
    refine ⟨?_, ih⟩
    unfold typOk
    have m1 : memB x.name.text (b.map fun x => x.name.text) = false := by
      unfold memB
      rw [List.any_eq_false]
      intro y hy e
      exact typIdx_not hn (of_decide_eq_true e ▸ hy)
    have e1 : isWordB x.typ.name = true := isWordB_tok g1 g3 g2
    have e2 : memB x.typ.name (b.map fun x => x.name.text) = false := m1
    rw [e1, e2]
    have e3 : withinB 127 [x.typ.flags] = true := withinB_iff.2 fun y hy => by
      rw [List.mem_singleton.1 hy]
      show 0 ≤ (x.flags : Int) ∧ (x.flags : Int) ≤ 127
      omega
    have e4 : withinB 1099511627776 [x.typ.life] = true := withinB_iff.2 fun y hy => by
      rw [List.mem_singleton.1 hy]
      show 0 ≤ (x.life : Int) ∧ (x.life : Int) ≤ 1099511627776
      omega
    rw [e3, e4]
    rfl
theorem word_some {c : Nat} (h1 : 1 ≤ c) (h2 : c ≤ 27) : ((wordN (c : Int)).toList == []) = false := by
  have h : ((List.range 27).all fun j => !((wordN ((j + 1 : Nat) : Int)).toList == [])) = true := by kernel_rfl
  have h3 := List.all_eq_true.1 h (c - 1) (List.mem_range.2 (by omega))
  rw [show c - 1 + 1 = c by omega] at h3
  simpa using h3
theorem parse_ok {s : ByteArray} (h : (parse s).err = 0) : ∃ l nm st, tokens s = .ok l ∧ policy l = .ok [] (nm, st) ∧ wrongs st = [] ∧ (parse s).pol = ⟨nm.text, st.typs.map PTyp.typ, st.ruls.map (PRul.rul st.typs), st.quos.map PQuo.quo⟩ := by
  unfold parse at h ⊢
  cases ht : tokens s with
  | err a e =>
    rw [ht] at h
    exact absurd h (tokens_errs ht)
  | ok l =>
    rw [ht] at h
    dsimp only at h ⊢
    cases hp : policy l with
    | bad r =>
      rw [hp] at h
      cases r <;> cases h
    | ok r x =>
      obtain ⟨nm, st⟩ := x
      rw [hp] at h
      dsimp only at h ⊢
      have hr : r = [] := by
        obtain ⟨m1, y1, h1, h⟩ := bind_ok hp
        obtain ⟨m2, y2, h2, h⟩ := bind_ok h
        obtain ⟨m3, y3, h3, h⟩ := bind_ok h
        obtain ⟨m4, y4, h4, h⟩ := bind_ok h
        split at h
        · cases h; rfl
        · cases h
      cases hw : wrongs st with
      | cons a b =>
        rw [hw] at h
        cases h
      | nil =>
        subst hr
        exact ⟨l, nm, st, rfl, hp, hw, rfl⟩
/-- A policy that was read can be printed. -/
theorem parsed_ok {s : ByteArray} (h : (parse s).err = 0) : printableB (parse s).pol = true ∧ PolOk (parse s).pol := by
  obtain ⟨l, nm, st, ht, hp, hw, e⟩ := parse_ok h
  obtain ⟨f1, f2, f3⟩ := tokens_facts ht
  have hg := good_of_chain (tokens_chain s l ht).2
  have hcap : ∀ t ∈ l, t.n ≤ capN := fun t ht => by have := (hg t ht).val; unfold capN; omega
  obtain ⟨hF, hn1, hn2⟩ := policy_fine hp hcap
  have hA := policy_among hp
  unfold wrongs at hw
  obtain ⟨w1, w2⟩ := List.append_eq_nil_iff.1 hw
  rw [e]
  have hty := typsOk_read st.typs [] w1 fun x hx => ⟨hg _ (hA.typs x hx), (f3 _ (hA.typs x hx)).1, hF.typs x hx⟩
  have hmiss : ∀ r ∈ st.ruls, typIdx st.typs r.a.text < st.typs.length ∧ typIdx st.typs r.b.text < st.typs.length := fun r hr => by
    have h0 := List.flatMap_eq_nil_iff.1 w2 r hr
    unfold missing at h0
    obtain ⟨h1, h2⟩ := List.append_eq_nil_iff.1 h0
    exact ⟨Classical.byContradiction fun c => (by rw [if_neg c] at h1; cases h1), Classical.byContradiction fun c => (by rw [if_neg c] at h2; cases h2)⟩
  have hnt := hA.nt
  refine ⟨?_, ?_⟩
  · unfold printableB
    simp only [Bool.and_eq_true]
    refine ⟨⟨⟨isWordB_tok (hg _ hn1) hn2 (f3 _ hn1).1, hty⟩, ?_⟩, ?_⟩
    · rw [List.all_eq_true]
      intro x hx
      obtain ⟨r, hr, rfl⟩ := List.mem_map.1 hx
      obtain ⟨k1, k2⟩ := hF.ruls r hr
      obtain ⟨i1, i2⟩ := hmiss r hr
      unfold rulOk
      rw [Bool.and_eq_true]
      refine ⟨withinB_iff.2 fun y hy => ?_, withinB_iff.2 fun y hy => ?_⟩
      · rw [List.mem_singleton.1 hy]
        show 0 ≤ wrap64 ((r.kind : Int) - 1) ∧ wrap64 ((r.kind : Int) - 1) ≤ 4
        rw [wrap64]
        omega
      · rw [List.length_map]
        have hy : y = (PRul.rul st.typs r).a ∨ y = (PRul.rul st.typs r).b := by simpa using hy
        have ea : (PRul.rul st.typs r).a = (typIdx st.typs r.a.text : Int) := rfl
        have eb : (PRul.rul st.typs r).b = (typIdx st.typs r.b.text : Int) := rfl
        rcases hy with rfl | rfl <;> omega
    · rw [List.all_eq_true]
      intro x hx
      obtain ⟨q, hq, rfl⟩ := List.mem_map.1 hx
      obtain ⟨k1, k2, k3, k4, k5, k6⟩ := hF.quos q hq
      unfold capN at k3 k4 k5 k6
      unfold quoOk
      rw [Bool.and_eq_true]
      refine ⟨?_, withinB_iff.2 fun y hy => ?_⟩
      · have := word_some k1 k2
        show (!((wordN (q.cmd : Int)).toList == [])) = true
        rw [this]
        rfl
      · have hy : y = q.quo.count ∨ y = q.quo.delay ∨ y = q.quo.valid ∨ y = q.quo.uses := by simpa using hy
        have ea : q.quo.count = (q.count : Int) ∧ q.quo.delay = (q.delay : Int) ∧ q.quo.valid = (q.valid : Int) ∧ q.quo.uses = (q.uses : Int) := ⟨rfl, rfl, rfl, rfl⟩
        rcases hy with rfl | rfl | rfl | rfl <;> omega
  · refine ⟨?_, fun x hx => ?_, fun x hx => ?_, fun x hx => ?_, ?_, ?_, ?_⟩
    · have := (f3 _ hn1).1
      unfold maxLen
      exact Nat.le_trans this (by decide)
    · obtain ⟨t, htm, rfl⟩ := List.mem_map.1 hx
      obtain ⟨_, k2, k3⟩ := hF.typs t htm
      unfold capN at k3
      refine ⟨Nat.le_trans (f3 _ (hA.typs t htm)).1 (by unfold maxLen; decide), ?_, ?_⟩
      · show InI (t.flags : Int)
        unfold InI
        omega
      · show InI (t.life : Int)
        unfold InI
        omega
    · obtain ⟨r, hr, rfl⟩ := List.mem_map.1 hx
      obtain ⟨k1, k2⟩ := hF.ruls r hr
      obtain ⟨i1, i2⟩ := hmiss r hr
      refine ⟨?_, ?_, ?_⟩
      · show InI (r.kind : Int)
        unfold InI
        omega
      · show InI (typIdx st.typs r.a.text : Int)
        unfold InI
        omega
      · show InI (typIdx st.typs r.b.text : Int)
        unfold InI
        omega
    · obtain ⟨q, hq, rfl⟩ := List.mem_map.1 hx
      obtain ⟨k1, k2, k3, k4, k5, k6⟩ := hF.quos q hq
      unfold capN at k3 k4 k5 k6
      refine ⟨?_, ?_, ?_, ?_, ?_⟩
      · show InI (q.cmd : Int); unfold InI; omega
      · show InI (q.count : Int); unfold InI; omega
      · show InI (q.delay : Int); unfold InI; omega
      · show InI (q.valid : Int); unfold InI; omega
      · show InI (q.uses : Int); unfold InI; omega
    · dsimp only
      rw [List.length_map]
      omega
    · have := hA.nr
      dsimp only
      rw [List.length_map]
      omega
    · have := hA.nq
      dsimp only
      rw [List.length_map]
      omega
end Go.Proofs.YtemhiiignamkjaaDoor
