/-
  Plain mathematics of layer 11 (lex): how tokens lie in a text, and that a token is found again before a blank or a newline.
-/
import Derived.Test.YtemhiiignamkjaaDoorMA
namespace Go.Proofs.YtemhiiignamkjaaDoor
namespace LexP

theorem blen (s : ByteArray) : s.data.toList.length = s.size := Array.length_toList

/-- What a scan finds: from index a on, the tokens l, and nothing but blanks between them and behind them. -/
inductive Chain (s : ByteArray) : Nat → List Tok → Prop
  | nil (a : Nat) (h : a + skipB false (s.data.toList.drop a) = s.size) : Chain s a []
  | cons (a p : Nat) (r : List Tok) (hp : a + skipB false (s.data.toList.drop a) = p) (hlt : p < s.size) (hn : (tokenL (s.data.toList.drop p)).2.1 ≠ 0)
      (hv : ¬ 1099511627776 < (tokenL (s.data.toList.drop p)).2.2) (hr : Chain s (p + (tokenL (s.data.toList.drop p)).2.1) r) : Chain s a (tokAt s p :: r)

theorem scan_chain (s : ByteArray) : ∀ (f a p : Nat) (out l : List Tok), s.size - p < f → a ≤ s.size → a + skipB false (s.data.toList.drop a) = p → scan s p out = .ok l → ∃ r, l = out ++ r ∧ Chain s a r
  | 0, _, _, _, _, h, _, _, _ => by omega
  | f + 1, a, p, out, l, h, ha, hp, hl => by
    by_cases h1 : p < s.size
    · by_cases h2 : (tokenL (s.data.toList.drop p)).2.1 = 0
      · rw [scan_syntax _ _ _ h1 h2] at hl; cases hl
      · by_cases h3 : 1099511627776 < (tokenL (s.data.toList.drop p)).2.2
        · rw [scan_limit _ _ _ h1 h2 h3] at hl; cases hl
        · rw [scan_step _ _ _ h1 h2 h3] at hl
          have hle := tokenL_le (s.data.toList.drop p)
          rw [List.length_drop, blen] at hle
          obtain ⟨r, hr, hc⟩ := scan_chain s f (p + (tokenL (s.data.toList.drop p)).2.1) (next s p) (out ++ [tokAt s p]) l (by unfold next; omega) (by omega) rfl hl
          exact ⟨tokAt s p :: r, by rw [hr]; simp, .cons a p r hp h1 h2 h3 hc⟩
    · rw [scan_end _ _ _ (by omega)] at hl
      cases hl
      have hs := skipB_le false (s.data.toList.drop a)
      rw [List.length_drop, blen] at hs
      exact ⟨[], by simp, .nil a (by omega)⟩

theorem tokens_chain (s : ByteArray) (l : List Tok) (h : tokens s = .ok l) : s.size ≤ 4000 ∧ Chain s 0 l := by
  unfold tokens at h
  split at h
  · cases h
  · obtain ⟨r, hr, hc⟩ := scan_chain s (s.size + 1) 0 (skipB false s.data.toList) [] l (by omega) (Nat.zero_le _) (by simp) h
    simp at hr
    subst hr
    exact ⟨by omega, hc⟩

/-- And back. -/
theorem chain_scan (s : ByteArray) {a : Nat} {l : List Tok} (h : Chain s a l) : ∀ out, scan s (a + skipB false (s.data.toList.drop a)) out = .ok (out ++ l) := by
  induction h with
  | nil a h => intro out; rw [h, scan_end _ _ _ (Nat.le_refl _)]; simp
  | cons a p r hp hlt hn hv hr ih =>
    intro out
    rw [hp, scan_step _ _ _ hlt hn hv]
    have := ih (out ++ [tokAt s p])
    unfold next
    rw [this]; simp

theorem chain_tokens (s : ByteArray) (l : List Tok) (hs : s.size ≤ 4000) (h : Chain s 0 l) : tokens s = .ok l := by
  unfold tokens
  rw [if_neg (by omega)]
  have := chain_scan s h []
  simpa using this

/-- What is skipped is skipped again by itself. -/
theorem skipB_take : ∀ (b : Bool) (l : List UInt8), skipB b (l.take (skipB b l)) = skipB b l
  | _, [] => by simp [skipB]
  | false, c :: r => by
    have h1 := skipB_take false r
    have h2 := skipB_take true r
    simp only [skipB]
    cases hb : isBlank c with
    | true => simp only [cond_true, List.take_succ_cons, skipB, hb]; rw [h1]
    | false =>
      cases h35 : (c.toNat == 35) with
      | true => simp only [cond_true, cond_false, List.take_succ_cons, skipB, hb, h35]; rw [h2]
      | false => simp [skipB]
  | true, c :: r => by
    have h1 := skipB_take false r
    have h2 := skipB_take true r
    simp only [skipB]
    cases h10 : (c.toNat == 10) with
    | true => simp only [cond_true, List.take_succ_cons, skipB, h10]; rw [h1]
    | false => simp only [cond_false, List.take_succ_cons, skipB, h10]; rw [h2]

theorem gap_tokens (s : ByteArray) (a p : Nat) (hs : s.size ≤ 4000) (h : a + skipB false (s.data.toList.drop a) = p) : tokens (s.extract a p) = .ok [] := by
  have e : (s.extract a p).data.toList = (s.data.toList.drop a).take (skipB false (s.data.toList.drop a)) := by
    rw [ByteArray.data_extract, Array.toList_extract]
    show (s.data.toList.drop a).take (p - a) = _
    rw [show p - a = skipB false (s.data.toList.drop a) by omega]
  have hsz : (s.extract a p).size ≤ 4000 := by rw [ByteArray.size_extract]; omega
  refine chain_tokens _ _ hsz (.nil 0 ?_)
  rw [List.drop_zero, e, skipB_take, ← blen, e, List.length_take]
  have := skipB_le false (s.data.toList.drop a)
  omega
end LexP
end Go.Proofs.YtemhiiignamkjaaDoor
