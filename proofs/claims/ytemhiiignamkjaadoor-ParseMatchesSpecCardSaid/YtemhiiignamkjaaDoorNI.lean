/-
  Plain mathematics of layer 11 (lex): how tokens lie in a text, and that a token is found again before a blank or a newline.
  What a policy's parts have to do with the tokens; the least index; the rules when no name is missing (layer 12). Plain, no program.
-/
import Derived.Test.YtemhiiignamkjaaDoorMA
import Derived.Test.YtemhiiignamkjaaDoorParP3
namespace Go.Proofs.YtemhiiignamkjaaDoor
namespace LexP

theorem blen (s : ByteArray) : s.data.toList.length = s.size := Array.length_toList

/-- What a scan finds: from index a on, the tokens l, and nothing but blanks between them and behind them. -/
inductive Chain (s : ByteArray) : Nat → List Tok → Prop
  | nil (a : Nat) (h : a + skipB false (s.data.toList.drop a) = s.size) : Chain s a []
  | cons (a p : Nat) (r : List Tok) (hp : a + skipB false (s.data.toList.drop a) = p) (hlt : p < s.size) (hn : (tokenL (s.data.toList.drop p)).2.1 ≠ 0)
      (hv : ¬ 1099511627776 < (tokenL (s.data.toList.drop p)).2.2) (hr : Chain s (p + (tokenL (s.data.toList.drop p)).2.1) r) : Chain s a (tokAt s p :: r)

theorem scan_chain (s : ByteArray) : ∀ (f a p : Nat) (out l : List Tok), s.size - p < f → a ≤ s.size → a + skipB false (s.data.toList.drop a) = p → scan s p out = .ok l → ∃ r, l = out ++ r ∧ Chain s a r
  | 0, _, _, _, _, h, _, _, _ => by omega
  | f + 1, a, p, out, l, h, ha, hp, hl => by
    by_cases h1 : p < s.size
    · by_cases h2 : (tokenL (s.data.toList.drop p)).2.1 = 0
      · rw [scan_syntax _ _ _ h1 h2] at hl; cases hl
      · by_cases h3 : 1099511627776 < (tokenL (s.data.toList.drop p)).2.2
        · rw [scan_limit _ _ _ h1 h2 h3] at hl; cases hl
        · rw [scan_step _ _ _ h1 h2 h3] at hl
          have hle := tokenL_le (s.data.toList.drop p)
          rw [List.length_drop, blen] at hle
          obtain ⟨r, hr, hc⟩ := scan_chain s f (p + (tokenL (s.data.toList.drop p)).2.1) (next s p) (out ++ [tokAt s p]) l (by unfold next; omega) (by omega) rfl hl
          exact ⟨tokAt s p :: r, by rw [hr]; simp, .cons a p r hp h1 h2 h3 hc⟩
    · rw [scan_end _ _ _ (by omega)] at hl
      cases hl
      have hs := skipB_le false (s.data.toList.drop a)
      rw [List.length_drop, blen] at hs
      exact ⟨[], by simp, .nil a (by omega)⟩

theorem tokens_chain (s : ByteArray) (l : List Tok) (h : tokens s = .ok l) : s.size ≤ 4000 ∧ Chain s 0 l := by
  unfold tokens at h
  split at h
  · cases h
  · obtain ⟨r, hr, hc⟩ := scan_chain s (s.size + 1) 0 (skipB false s.data.toList) [] l (by omega) (Nat.zero_le _) (by simp) h
    simp at hr
    subst hr
    exact ⟨by omega, hc⟩

/-- And back. -/
theorem chain_scan (s : ByteArray) {a : Nat} {l : List Tok} (h : Chain s a l) : ∀ out, scan s (a + skipB false (s.data.toList.drop a)) out = .ok (out ++ l) := by
  induction h with
  | nil a h => intro out; rw [h, scan_end _ _ _ (Nat.le_refl _)]; simp
  | cons a p r hp hlt hn hv hr ih =>
    intro out
    rw [hp, scan_step _ _ _ hlt hn hv]
    have := ih (out ++ [tokAt s p])
    unfold next
    rw [this]; simp

theorem chain_tokens (s : ByteArray) (l : List Tok) (hs : s.size ≤ 4000) (h : Chain s 0 l) : tokens s = .ok l := by
  unfold tokens
  rw [if_neg (by omega)]
  have := chain_scan s h []
  simpa using this

/-- What is skipped is skipped again by itself. -/
theorem skipB_take : ∀ (b : Bool) (l : List UInt8), skipB b (l.take (skipB b l)) = skipB b l
  | _, [] => by simp [skipB]
  | false, c :: r => by
    have h1 := skipB_take false r
    have h2 := skipB_take true r
    simp only [skipB]
    cases hb : isBlank c with
    | true => simp only [cond_true, List.take_succ_cons, skipB, hb]; rw [h1]
    | false =>
      cases h35 : (c.toNat == 35) with
      | true => simp only [cond_true, cond_false, List.take_succ_cons, skipB, hb, h35]; rw [h2]
      | false => simp [skipB]
  | true, c :: r => by
    have h1 := skipB_take false r
    have h2 := skipB_take true r
    simp only [skipB]
    cases h10 : (c.toNat == 10) with
    | true => simp only [cond_true, List.take_succ_cons, skipB, h10]; rw [h1]
    | false => simp only [cond_false, List.take_succ_cons, skipB, h10]; rw [h2]

theorem gap_tokens (s : ByteArray) (a p : Nat) (hs : s.size ≤ 4000) (h : a + skipB false (s.data.toList.drop a) = p) : tokens (s.extract a p) = .ok [] := by
  have e : (s.extract a p).data.toList = (s.data.toList.drop a).take (skipB false (s.data.toList.drop a)) := by
    rw [ByteArray.data_extract, Array.toList_extract]
    show (s.data.toList.drop a).take (p - a) = _
    rw [show p - a = skipB false (s.data.toList.drop a) by omega]
  have hsz : (s.extract a p).size ≤ 4000 := by rw [ByteArray.size_extract]; omega
  refine chain_tokens _ _ hsz (.nil 0 ?_)
  rw [List.drop_zero, e, skipB_take, ← blen, e, List.length_take]
  have := skipB_le false (s.data.toList.drop a)
  omega
end LexP
end Go.Proofs.YtemhiiignamkjaaDoor
namespace Go.Proofs.YtemhiiignamkjaaDoor
namespace ParP
open LexP
theorem chain_facts {s : ByteArray} {a : Nat} {l : List Tok} (h : Chain s a l) : a ≤ s.size → (∀ t ∈ l, t.text.size ≤ s.size ∧ t.pos ≤ s.size) ∧ l.length + a ≤ s.size := by
  induction h with
  | nil a h => intro ha; exact ⟨fun _ h => (by cases h), by simpa using ha⟩
  | cons a p r hp hlt hn hv hr ih =>
    intro ha
    have hle := tokenL_le (s.data.toList.drop p)
    rw [List.length_drop, blen] at hle
    obtain ⟨h1, h2⟩ := ih (by omega)
    refine ⟨fun t ht => ?_, by simp; omega⟩
    rcases List.mem_cons.1 ht with rfl | ht
    · unfold tokAt
      simp
      omega
    · exact h1 t ht
theorem tokens_facts {s : ByteArray} {l : List Tok} (h : tokens s = .ok l) : s.size ≤ 4000 ∧ l.length ≤ s.size ∧ ∀ t ∈ l, t.text.size ≤ 4000 ∧ t.pos ≤ 4000 := by
  obtain ⟨h1, h2⟩ := tokens_chain s l h
  obtain ⟨h3, h4⟩ := chain_facts h2 (Nat.zero_le _)
  exact ⟨h1, by omega, fun t ht => ⟨Nat.le_trans (h3 t ht).1 h1, Nat.le_trans (h3 t ht).2 h1⟩⟩
theorem tokens_errs {s : ByteArray} {p : Nat} {e : Int} (h : tokens s = .err p e) : e ≠ 0 := by
  have hsc : ∀ (f a : Nat) (out : List Tok), s.size - a < f → scan s a out = .err p e → e ≠ 0 := by
    intro f
    induction f with
    | zero => intro a out h; omega
    | succ f ih =>
      intro a out hf hl
      by_cases h1 : a < s.size
      · by_cases h2 : (tokenL (s.data.toList.drop a)).2.1 = 0
        · rw [scan_syntax _ _ _ h1 h2] at hl; cases hl; decide
        · by_cases h3 : 1099511627776 < (tokenL (s.data.toList.drop a)).2.2
          · rw [scan_limit _ _ _ h1 h2 h3] at hl; cases hl; decide
          · rw [scan_step _ _ _ h1 h2 h3] at hl
            have hx : a < next s a := by unfold next; omega
            exact ih _ _ (by omega) hl
      · rw [scan_end _ _ _ (by omega)] at hl
        cases hl
  unfold tokens at h
  split at h
  · cases h; decide
  · exact hsc _ _ _ (Nat.lt_succ_self _) h
/-- What is read lies among the tokens. -/
structure Among (l : List Tok) (st : St) (n : Nat) : Prop where
  typs : ∀ t ∈ st.typs, t.name ∈ l
  ruls : ∀ r ∈ st.ruls, r.a ∈ l ∧ r.b ∈ l
  nt : st.typs.length ≤ n
  nr : st.ruls.length ≤ n
  nq : st.quos.length ≤ n
theorem word_mem {l r : List Tok} {t : Tok} (h : word l = .ok r t) : t ∈ l ∧ ∀ x ∈ r, x ∈ l := by
  obtain ⟨rfl, _⟩ := take_ok h
  exact ⟨List.mem_cons_self, fun x hx => List.mem_cons_of_mem _ hx⟩
theorem take_mem {p : Tok → Bool} {l r : List Tok} {t : Tok} (h : take p l = .ok r t) : ∀ x ∈ r, x ∈ l := by
  obtain ⟨rfl, _⟩ := take_ok h
  exact fun x hx => List.mem_cons_of_mem _ hx
theorem typLoop_mem : ∀ (N : Nat) (l : List Tok) (fl lf : Nat) (lb : Bool) (r : List Tok) (x : Nat × Nat), l.length ≤ N → typLoop l fl lf lb = .ok r x → ∀ y ∈ r, y ∈ l := by
  intro N
  induction N with
  | zero =>
    intro l fl lf lb r x hl h
    have : l = [] := List.eq_nil_of_length_eq_zero (Nat.le_zero.1 hl)
    subst this
    rw [typLoop.eq_def] at h
    cases h
  | succ N ih =>
    intro l fl lf lb r x hl h
    cases l with
    | nil => rw [typLoop.eq_def] at h; cases h
    | cons t r0 =>
      rw [typLoop.eq_def] at h
      dsimp only at h
      split at h
      · cases h; exact fun y hy => List.mem_cons_of_mem _ hy
      · split at h
        · cases r0 with
          | nil => cases h
          | cons u r2 =>
            dsimp only at h
            split at h
            · cases r2 with
              | nil => cases h
              | cons v r3 =>
                dsimp only at h
                split at h
                · have := ih _ _ _ _ _ _ (by simp at hl ⊢; omega) h
                  intro y hy
                  simp [this y hy]
                · cases h
            · cases h
        · split at h
          · cases r0 with
            | nil => cases h
            | cons v r2 =>
              dsimp only at h
              split at h
              · have := ih _ _ _ _ _ _ (by simp at hl ⊢; omega) h
                intro y hy
                simp [this y hy]
              · cases h
          · cases h
theorem opt_mem {s : ByteArray} {z : Nat} {l r : List Tok} {x : Nat} (h : opt s z l = .ok r x) : ∀ y ∈ r, y ∈ l := by
  unfold opt at h
  split at h
  · obtain ⟨m1, y1, h1, h⟩ := bind_ok h
    obtain ⟨m2, y2, h2, h⟩ := bind_ok h
    cases h
    exact fun y hy => take_mem h1 y (take_mem h2 y hy)
  · cases h
    exact fun y hy => hy
theorem item_among {l0 r r2 : List Tok} {st st2 : St} {k n : Nat} (h : item r st k = .ok r2 st2) (hr : ∀ x ∈ r, x ∈ l0) (ha : Among l0 st n) : Among l0 st2 (n + 1) ∧ ∀ x ∈ r2, x ∈ l0 := by
  have hz := item_size h ⟨ha.nt, ha.nr, ha.nq⟩
  unfold item at h
  split at h
  · obtain ⟨m, x, h1, h⟩ := bind_ok h
    cases h
    obtain ⟨m1, y1, g1, h1⟩ := bind_ok h1
    obtain ⟨m2, y2, g2, h1⟩ := bind_ok h1
    obtain ⟨m3, y3, g3, h1⟩ := bind_ok h1
    cases h1
    obtain ⟨w1, w2⟩ := word_mem g1
    refine ⟨⟨fun t ht => ?_, ha.ruls, hz.1, hz.2.1, hz.2.2⟩, fun y hy => hr _ (w2 _ (take_mem g2 _ (typLoop_mem _ _ _ _ _ _ _ (Nat.le_refl _) g3 _ hy)))⟩
    rcases List.mem_append.1 ht with ht | ht
    · exact ha.typs t ht
    · simp at ht
      subst ht
      exact hr _ w1
  · split at h
    · obtain ⟨m, x, h1, h⟩ := bind_ok h
      cases h
      obtain ⟨m1, y1, g1, h1⟩ := bind_ok h1
      obtain ⟨m2, y2, g2, h1⟩ := bind_ok h1
      obtain ⟨m3, y3, g3, h1⟩ := bind_ok h1
      obtain ⟨m4, y4, g4, h1⟩ := bind_ok h1
      obtain ⟨m5, y5, g5, h1⟩ := bind_ok h1
      obtain ⟨m6, y6, g6, h1⟩ := bind_ok h1
      obtain ⟨m7, y7, g7, h1⟩ := bind_ok h1
      cases h1
      exact ⟨⟨ha.typs, ha.ruls, hz.1, hz.2.1, hz.2.2⟩, fun y hy => hr _ (take_mem g1 _ (take_mem g2 _ (opt_mem g3 _ (take_mem g4 _ (take_mem g5 _ (opt_mem g6 _ (take_mem g7 _ hy)))))))⟩
    · obtain ⟨m, x, h1, h⟩ := bind_ok h
      cases h
      obtain ⟨m1, y1, g1, h1⟩ := bind_ok h1
      obtain ⟨m2, y2, g2, h1⟩ := bind_ok h1
      obtain ⟨m3, y3, g3, h1⟩ := bind_ok h1
      obtain ⟨m4, y4, g4, h1⟩ := bind_ok h1
      cases h1
      obtain ⟨w1, w2⟩ := word_mem g1
      obtain ⟨w3, w4⟩ := word_mem g3
      refine ⟨⟨ha.typs, fun t ht => ?_, hz.1, hz.2.1, hz.2.2⟩, fun y hy => hr _ (w2 _ (take_mem g2 _ (w4 _ (take_mem g4 _ hy))))⟩
      rcases List.mem_append.1 ht with ht | ht
      · exact ha.ruls t ht
      · simp at ht
        subst ht
        exact ⟨hr _ w1, hr _ (w2 _ (take_mem g2 _ w3))⟩
theorem items_among {l0 : List Tok} : ∀ (f : Nat) (l r : List Tok) (st st2 : St) (n : Nat), items f l st = .ok r st2 → (∀ x ∈ l, x ∈ l0) → Among l0 st n → n + l.length ≤ l0.length → Among l0 st2 l0.length
  | 0, [], _, _, _, _, h, _, _, _ => by cases h
  | 0, _ :: _, _, _, _, _, h, _, _, _ => by cases h
  | f + 1, [], _, _, _, _, h, _, _, _ => by rw [items_end] at h; cases h
  | f + 1, t :: l, r, st, st2, n, h, hl, ha, hn => by
    by_cases hc : isText wClose t = true
    · rw [items_close _ _ _ _ hc] at h
      cases h
      exact ⟨ha.typs, ha.ruls, by have := ha.nt; omega, by have := ha.nr; omega, by have := ha.nq; omega⟩
    · rw [items_round _ _ _ _ (by simpa using hc)] at h
      split at h
      · obtain ⟨m, x, h1, h2⟩ := bind_ok h
        obtain ⟨h3, h4⟩ := item_among h1 (fun y hy => hl y (List.mem_cons_of_mem _ hy)) ha
        have h5 := item_len h1
        exact items_among f m r x st2 (n + 1) h2 h4 h3 (by simp at hn; omega)
      · cases h
theorem policy_among {l r : List Tok} {nm : Tok} {st : St} (h : policy l = .ok r (nm, st)) : Among l st l.length := by
  obtain ⟨m1, y1, h1, h⟩ := bind_ok h
  obtain ⟨m2, y2, h2, h⟩ := bind_ok h
  obtain ⟨m3, y3, h3, h⟩ := bind_ok h
  obtain ⟨m4, y4, h4, h⟩ := bind_ok h
  split at h
  · cases h
    have a := take_len h1
    have b := take_len h2
    have c := take_len h3
    exact items_among _ _ _ _ _ 0 h4 (fun y hy => take_mem h1 _ (take_mem h2 _ (take_mem h3 _ hy))) ⟨fun _ h => (by cases h), fun _ h => (by cases h), Nat.le_refl _, Nat.le_refl _, Nat.le_refl _⟩ (by omega)
  · cases h
/-- The first of the tokens with the least index. -/
def minTok : Tok → List Tok → Tok
  | m, [] => m
  | m, x :: r => minTok (if x.pos < m.pos then x else m) r
theorem least_min : ∀ (r : List Tok) (m : Tok), least (m :: r) = some (minTok m r).pos
  | [], m => rfl
  | x :: r, m => by
    have h1 := least_min r x
    have h2 := least_min r (if x.pos < m.pos then x else m)
    unfold minTok
    rw [← h2]
    show some (match least (x :: r) with | none => m.pos | some k => min m.pos k) = some (match least r with | none => (if x.pos < m.pos then x else m).pos | some k => min (if x.pos < m.pos then x else m).pos k)
    show some (match (some (match least r with | none => x.pos | some k => min x.pos k)) with | none => m.pos | some k => min m.pos k) = _
    cases least r with
    | none =>
      dsimp only
      rw [Option.some.injEq]
      simp only [Nat.min_def]
      split <;> split <;> omega
    | some k =>
      dsimp only
      rw [Option.some.injEq]
      simp only [Nat.min_def]
      repeat' split
      all_goals omega
theorem minTok_snoc : ∀ (r : List Tok) (m : Tok) (x : Tok), minTok m (r ++ [x]) = if x.pos < (minTok m r).pos then x else minTok m r
  | [], _, _ => rfl
  | _ :: r, _, x => minTok_snoc r _ x
/-- The rules' numbers when no name is missing. -/
theorem rulsH_all (ts : List PTyp) : ∀ (rs : List PRul) (h : Nat), h = 2 * rs.length → rs.flatMap (missing ts) = [] → rulsH ts rs h = rs.flatMap fun r => [r.kind, typIdx ts r.a.text, typIdx ts r.b.text]
  | [], _, _, _ => rfl
  | r :: rs, h, hh, hm => by
    rw [List.flatMap_cons, List.append_eq_nil_iff] at hm
    rw [rulsH, rulsH_all ts rs (h - 2) (by simp at hh; omega) hm.2, List.flatMap_cons]
    congr 1
    simp at hh
    have h0 : 0 < h := by omega
    have h1 : 1 < h := by omega
    have h2 := hm.1
    unfold missing at h2
    rw [List.append_eq_nil_iff] at h2
    have ha : typIdx ts r.a.text < ts.length := by
      by_cases h : typIdx ts r.a.text < ts.length
      · exact h
      · rw [if_neg h] at h2; cases h2.1
    have hb : typIdx ts r.b.text < ts.length := by
      by_cases h : typIdx ts r.b.text < ts.length
      · exact h
      · rw [if_neg h] at h2; cases h2.2
    unfold rulN idxOr nameAt
    rw [if_pos h0, if_pos h1, if_pos ha, if_pos hb]
    rfl
end ParP
end Go.Proofs.YtemhiiignamkjaaDoor
