/-
  The walks of two further statements of layer 11: the tokens lie in the text; what Join makes of tokens has these tokens.
-/
import Derived.Test.YtgieiehpnjhkoabDoorLexLaw1
import Derived.Test.YtgieiehpnjhkoabDoorLexPlain6
namespace Go.Proofs.YtgieiehpnjhkoabDoor
open Go.RowKit LexP

theorem alike_moved : ∀ {l m : List Tok}, moved l m → alike false (l.map gtok) (m.map gtok)
  | [], [], _ => trivial
  | a :: r, b :: s, h => by
    obtain ⟨⟨h1, h2, h3⟩, h4⟩ := h
    exact ⟨⟨by show (a.kind : Int) = b.kind; rw [h1], h2.symm, by show (a.n : Int) = b.n; rw [h3], fun e => by cases e⟩, alike_moved h4⟩

/-- The texts of tokens of one text, joined, are not longer than twice that text. -/
theorem chain_joinLen {s : ByteArray} {a : Nat} {l : List Tok} (h : Chain s a l) (ha : a ≤ s.size) : (tailT l).length ≤ 2 * (s.size - a) := by
  induction h with
  | nil a h => simp [tailT, Lib.joinTail]
  | cons a p r hp hlt hn hv hr ih =>
    have hle := tokenL_le (s.data.toList.drop p)
    rw [List.length_drop, blen] at hle
    have ih := ih (by omega)
    rw [tailT_cons, List.length_cons, List.length_append, blen]
    have : (tokAt s p).text.size = (tokenL (s.data.toList.drop p)).2.1 := by
      show (s.extract p _).size = _
      rw [ByteArray.size_extract]; omega
    rw [this]
    omega

theorem joinT_le (l : List Tok) : (joinT (l.map gtok)).length ≤ (tailT l).length := by
  cases l with
  | nil => simp [joinT, Lib.join, List.intercalate]
  | cons t l =>
    rw [tailT_cons]
    unfold joinT tailT
    rw [List.map_cons, List.map_cons, Lib.join_cons, List.map_map]
    simp only [List.length_append, List.length_cons]
    exact Nat.le_succ _

theorem joinT_toks (l : List Tok) : joinT (l.map gtok) = Lib.join (l.map (·.text.data.toList)) [32] := by
  unfold joinT
  rw [List.map_map]; rfl

theorem scan_errs (s : ByteArray) : ∀ (f a : Nat) (out : List Tok) (p : Nat) (e0 : Int), s.size - a < f → scan s a out = .err p e0 → e0 = 2 ∨ e0 = 3
  | 0, _, _, _, _, h, _ => by omega
  | f + 1, a, out, p, e0, h, hl => by
    by_cases h1 : a < s.size
    · by_cases h2 : (tokenL (s.data.toList.drop a)).2.1 = 0
      · rw [scan_syntax _ _ _ h1 h2] at hl; cases hl; exact .inr rfl
      · by_cases h3 : 1099511627776 < (tokenL (s.data.toList.drop a)).2.2
        · rw [scan_limit _ _ _ h1 h2 h3] at hl; cases hl; exact .inl rfl
        · rw [scan_step _ _ _ h1 h2 h3] at hl
          exact scan_errs s f _ _ _ _ (by unfold next; omega) hl
    · rw [scan_end _ _ _ (by omega)] at hl; cases hl
theorem tokens_errs (s : ByteArray) (p : Nat) (e0 : Int) (h : tokens s = .err p e0) : e0 = 2 ∨ e0 = 3 := by
  unfold tokens at h
  split at h
  · cases h; exact .inl rfl
  · exact scan_errs s _ _ _ _ _ (Nat.lt_succ_self _) h

set_option maxHeartbeats 4000000 in
theorem law_keeps (s : ByteArray) (w : World) (hs : s.size ≤ maxLen) (hU : UnitsAt w) :
    Calls Tryd.prog 7 #[.string s] w fun e w' => e = .returned (.bool true) ∧ Below w.heap.size w w' := by
  have hsm := Lib.hid hs
  unfold maxLen at hs
  by_cases hbig : 2000 < s.size
  · go_enter Tryd.func7, Tryd.ntmps7
    go_wp2_with fail
    refine (sanity_any _ hU).mono ?_
    rintro e w1 ⟨rfl, hb1⟩
    go_wp2_with fail
    go_ret
    exact ⟨rfl, hb1⟩
  · cases hr : tokens s with
    | err a e0 =>
      have Hr := Lib.hid hr
      have he0 : e0 = 2 ∨ e0 = 3 := tokens_errs s a e0 hr
      clear hr
      have t0 : (e0 != 0) = true := by rw [bne_iff_ne]; omega
      clear he0
      go_enter Tryd.func7, Tryd.ntmps7
      go_wp2_with fail
      refine (sanity_any _ hU).mono ?_
      rintro e w1 ⟨rfl, hb1⟩
      go_wp2_with fail
      refine (Tokens_err s a e0 Hr.out _ hsm.out (hU.below hb1)).mono ?_
      rintro e w2 ⟨rfl, hb2⟩
      go_wp2_with fail
      go_ret
      exact ⟨rfl, hb1.trans (hb2.mono hb1.size)⟩
    | ok l =>
      have hch := (tokens_chain s l hr).2
      have hl := (tokens_len s l hr).1
      have hgood := good_of_chain hch
      have hjl : (joinT (l.map gtok)).length ≤ 4000 := by
        have h1 := chain_joinLen hch (Nat.zero_le _)
        have h2 := joinT_le l
        omega
      obtain ⟨J, hJ⟩ : ∃ J : ByteArray, (⟨(joinT (l.map gtok)).toArray⟩ : ByteArray) = J := ⟨_, rfl⟩
      have hJl : J.data.toList = Lib.join (l.map (·.text.data.toList)) [32] := by rw [← hJ, ← joinT_toks]
      have hJs : J.size ≤ 4000 := by rw [← blen, hJl, ← joinT_toks]; exact hjl
      obtain ⟨m, hm, hmv⟩ := tokens_join l hgood J hJl hJs
      have Hr := Lib.hid hr
      have Hm := Lib.hid hm
      have HJ := Lib.hid hJ
      have Hal := Lib.hid (alike_moved hmv)
      have hJm : Hid (J.size ≤ maxLen) := by unfold Hid maxLen; omega
      clear hr hm hmv hch hgood hJl hJ
      go_enter Tryd.func7, Tryd.ntmps7
      go_wp2_with fail
      refine (sanity_any _ hU).mono ?_
      rintro e w1 ⟨rfl, hb1⟩
      go_wp2_with fail
      refine (Tokens_ok s l Hr.out _ hsm.out (hU.below hb1)).mono ?_
      rintro e w2 ⟨v, rfl, hown2, hb2⟩
      have ht2 := Lib.hid (toksAt_own hown2)
      go_wp2_with fail
      refine (Join_any _ _ _ ht2.out (by rw [List.length_map]; omega) (by omega)).mono ?_
      rintro e w3 ⟨rfl, hb3⟩
      rw [HJ.out]
      go_wp2_with fail
      refine (Tokens_ok J m Hm.out _ hJm.out (((hU.below hb1).below hb2).below hb3)).mono ?_
      rintro e w4 ⟨v', rfl, hown4, hb4⟩
      have ht4 := Lib.hid (toksAt_own hown4)
      have hB4 : Below w.heap.size w w4 := ((hb1.trans (hb2.mono hb1.size)).trans (hb3.mono (Nat.le_trans hb1.size hb2.size))).trans (hb4.mono (Nat.le_trans (Nat.le_trans hb1.size hb2.size) hb3.size))
      go_wp2_with (go_at_call 12; refine (Same_any _ _ _ _ false _ ((ht2.out.below hb3).below hb4) ht4.out Hal.out (by rw [List.length_map]; omega)).mono ?_; rintro e w5 ⟨rfl, n, rfl⟩)
      go_ret
      exact ⟨rfl, below_drewN hB4 _⟩
end Go.Proofs.YtgieiehpnjhkoabDoor
