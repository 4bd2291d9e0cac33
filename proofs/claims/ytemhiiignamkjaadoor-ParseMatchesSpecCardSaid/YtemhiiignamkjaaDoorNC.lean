/-
  The walks of layer 11 (lex): the token at the beginning of a text.
  The walk of lex.Tokens: it returns what the scan finds.
-/
import Derived.Test.YtemhiiignamkjaaDoorLexW3
import Derived.Test.YtemhiiignamkjaaDoorMA
import Derived.Test.YtemhiiignamkjaaDoorKit
namespace Go.Proofs.YtemhiiignamkjaaDoor
open Go.RowKit LexP

theorem bcell {W w1 : World} (hb : Below W.heap.size W w1) : (∀ b o, b < W.heap.size → w1.cell? ⟨b, o, none⟩ = W.cell? ⟨b, o, none⟩) ∧ (∀ b o, b < W.heap.size → w1.frozen? ⟨b, o, none⟩ = W.frozen? ⟨b, o, none⟩) :=
  ⟨fun b o h => hb.cell (p := ⟨b, o, none⟩) h, fun b o h => hb.frozen (p := ⟨b, o, none⟩) h⟩

set_option maxRecDepth 100000 in
set_option maxHeartbeats 1000000 in
theorem token_any (s : ByteArray) (w : World) (hs : s.size ≤ 1048576) (h0 : 0 < s.size) (hU : UnitsAt w) :
    Calls Tryd.prog 51 #[.string s] w fun e w' => e = .returned (.tuple #[.agg #[.int .i64 (tokenL s.data.toList).1, .string (s.extract 0 (tokenL s.data.toList).2.1), .int .i64 (tokenL s.data.toList).2.2, .int .i64 0], .int .i64 (tokenL s.data.toList).2.1]) ∧ Below w.heap.size w w' := by
  have hsm : Hid (s.size ≤ maxLen) := by unfold Hid maxLen; omega
  have hD : Hid (tokenL s.data.toList = if isL s[0] then (1, wordL s.data.toList, 0) else if isD s[0] then (2, (numberL s.data.toList).1, (numberL s.data.toList).2) else (3, signL s.data.toList, 0)) := by
    have := drop_at s 0 h0
    rw [List.drop_zero] at this
    unfold Hid; rw [this]; rfl
  have B2 : ∀ (o o' : Obj), Below w.heap.size w ((w.alloc o).alloc o') := fun o o' => ((Below.refl _ w).alloc (Nat.le_refl _) _).alloc (by simp) _
  cases hl : isL s[0]
  · cases hd : isD s[0]
    · have hv : Hid (tokenL s.data.toList = (3, signL s.data.toList, 0)) := by unfold Hid; rw [hD.out, hl, hd]; rfl
      have hle := signL_le s.data.toList
      rw [len_bytes] at hle
      rw [hv.out]
      go_enter Tryd.func51, Tryd.ntmps51
      go_wp2_with (first | (go_at_call 74; refine (letter_any _ _).mono ?_; rintro e w' ⟨rfl, rfl⟩) | (go_at_call 76; refine (digit_any _ _).mono ?_; rintro e w' ⟨rfl, rfl⟩) | (go_at_call 78; refine (sign_any _ _ h0).mono ?_; rintro e w' ⟨rfl, rfl⟩))
      exact bodyPost_ret (v := .tuple #[.agg #[.int .i64 3, .string (s.extract 0 (signL s.data.toList)), .int .i64 0, .int .i64 0], .int .i64 (signL s.data.toList)]) (by simp [results, Tryd.results51, go_sem]) rfl ⟨rfl, B2 _ _⟩
    · have hv : Hid (tokenL s.data.toList = (2, (numberL s.data.toList).1, (numberL s.data.toList).2)) := by unfold Hid; rw [hD.out, hl, hd]; rfl
      have hle := numberL_le s.data.toList
      rw [len_bytes] at hle
      rw [hv.out]
      have hU2 := hU.lt
      go_enter Tryd.func51, Tryd.ntmps51
      go_wp2_with (first | (go_at_call 74; refine (letter_any _ _).mono ?_; rintro e w' ⟨rfl, rfl⟩) | (go_at_call 76; refine (digit_any _ _).mono ?_; rintro e w' ⟨rfl, rfl⟩))
      refine (number_any s _ hs ((hU.below ((Below.refl _ w).alloc (Nat.le_refl _) _)).below ((Below.refl _ _).alloc (Nat.le_refl _) _))).mono ?_
      rintro e w1 ⟨rfl, hb⟩
      obtain ⟨hc, hf⟩ := bcell hb
      have hz := hb.size
      simp at hz
      go_wp2_with fail
      have hB : Below w.heap.size w w1 := (B2 _ _).trans (hb.mono (by simp; omega))
      refine bodyPost_ret (results_ct (P := Tryd.prog) rfl _ _ w.heap.size 47 #[.int .i64 2, .string (s.extract 0 (numberL s.data.toList).1), .int .i64 (numberL s.data.toList).2, .int .i64 0] _ rfl ?_ Tryd.underlying47 rfl (by kernel_rfl)) rfl ⟨rfl, ?_⟩
      · exact ((((((((Blk.new w 47 _).alloc _).below hb (by simp; omega)).other (a := ⟨w.heap.size + 1, 2, none⟩) (by simp) _).other (a := ⟨w.heap.size + 1, 1, none⟩) (by simp) _).set_ 0 _).set_ 1 _).set_ 2 _).set_ 3 _
      · exact (((((hB.setCell (p := ⟨w.heap.size + 1, 2, none⟩) (Nat.le_succ _) _).setCell (p := ⟨w.heap.size + 1, 1, none⟩) (Nat.le_succ _) _).setCell (p := ⟨w.heap.size, 0, none⟩) (Nat.le_refl _) _).setCell (p := ⟨w.heap.size, 1, none⟩) (Nat.le_refl _) _).setCell (p := ⟨w.heap.size, 2, none⟩) (Nat.le_refl _) _).setCell (p := ⟨w.heap.size, 3, none⟩) (Nat.le_refl _) _
  · have hv : Hid (tokenL s.data.toList = (1, wordL s.data.toList, 0)) := by unfold Hid; rw [hD.out, hl]; rfl
    have hle := wordL_le s.data.toList
    rw [len_bytes] at hle
    rw [hv.out]
    go_enter Tryd.func51, Tryd.ntmps51
    go_wp2_with (first | (go_at_call 74; refine (letter_any _ _).mono ?_; rintro e w' ⟨rfl, rfl⟩) | (go_at_call 75; refine (word_any _ _ hs).mono ?_; rintro e w' ⟨rfl, rfl⟩))
    exact bodyPost_ret (v := .tuple #[.agg #[.int .i64 1, .string (s.extract 0 (wordL s.data.toList)), .int .i64 0, .int .i64 0], .int .i64 (wordL s.data.toList)]) (by simp [results, Tryd.results51, go_sem]) rfl ⟨rfl, B2 _ _⟩
end Go.Proofs.YtemhiiignamkjaaDoor
namespace Go.Proofs.YtemhiiignamkjaaDoor
open Go.RowKit LexP

def tokCells (t : Tok) : List Value := [.int .i64 t.kind, .string t.text, .int .i64 t.n, .int .i64 t.pos]
def toksCells (l : List Tok) : List Value := l.flatMap tokCells
theorem toksCells_snoc (l : List Tok) (t : Tok) : toksCells (l ++ [t]) = toksCells l ++ tokCells t := by simp [toksCells]

theorem tokInfo : (Tryd.prog.info? 47).map (fun i => (i.zero, i.size, i.bytes)) = some (some (.agg #[.int .i64 0, .string ⟨#[]⟩, .int .i64 0, .int .i64 0]), 4, 40) := by kernel_rfl

/-- What a call of Tokens leaves: the slice of tokens, the index and the error. -/
def TokRes (B : Nat) (r : Res) (w' : World) (v : Value) (pos err : Int) : Prop :=
  match r with
  | .ok l => pos = 0 ∧ err = 0 ∧ w'.ownsRow B 47 4 v l.length (toksCells l)
  | .err a e => pos = a ∧ err = e ∧ v = .slice none 0 0

def TokPost (w : World) (r : Res) (e : Ending) (w' : World) : Prop :=
  ∃ v pos err, e = .returned (.tuple #[v, .int .i64 pos, .int .i64 err]) ∧ TokRes w.heap.size r w' v pos err ∧ Below w.heap.size w w'

theorem extract_extract (s : ByteArray) (k n : Nat) (_h : k + n ≤ s.size) : (s.extract k s.size).extract 0 n = s.extract k (k + n) := by
  apply ByteArray.ext
  apply Array.ext'
  rw [extract_list, extract_end, extract_list]
  simp

/-- The call of 'token' at an index. -/
theorem token_at (s : ByteArray) (k : Nat) (T : Tok) (n : Nat) (hT : tokAt s k = T) (hn : (tokenL (s.data.toList.drop k)).2.1 = n) (w : World) (hs : s.size ≤ 1048576) (hk : k < s.size) (hU : UnitsAt w) :
    Calls Tryd.prog 51 #[.string (s.extract k s.size)] w fun e w' => e = .returned (.tuple #[.agg #[.int .i64 T.kind, .string T.text, .int .i64 T.n, .int .i64 0], .int .i64 n]) ∧ Below w.heap.size w w' := by
  refine (token_any _ _ (by simp; omega) (by simp; omega) hU).mono ?_
  rintro e w1 ⟨rfl, hb1⟩
  have hle := tokenL_le (s.data.toList.drop k)
  rw [List.length_drop, len_bytes] at hle
  subst hT hn
  rw [extract_end, extract_extract _ _ _ (by omega)]
  exact ⟨rfl, hb1⟩

set_option maxRecDepth 100000 in
set_option maxHeartbeats 1000000 in
theorem Tokens_any (s : ByteArray) (w : World) (hs : s.size ≤ maxLen) (hU : UnitsAt w) :
    Calls Tryd.prog 21 #[.string s] w (TokPost w (tokens s)) := by
  unfold maxLen at hs
  by_cases hbig : 4000 < s.size
  · go_enter Tryd.func21, Tryd.ntmps21
    go_wp2_with fail
    go_ret3
    exact ⟨_, 0, 2, rfl, by unfold tokens TokRes; rw [if_pos hbig]; exact ⟨rfl, rfl, rfl⟩, Below.refl _ _⟩
  · obtain ⟨i0, hi, hz0, hz1, hz2⟩ := info_parts tokInfo
    have hsm : Hid (s.size ≤ maxLen) := by unfold Hid maxLen; omega
    have hres : Hid (tokens s = scan s (skipB false s.data.toList) []) := by unfold Hid tokens; rw [if_neg hbig]
    have hsk := skipB_le false s.data.toList
    rw [len_bytes] at hsk
    have hnil : Hid (∀ w0 : World, w0.ownsRow w.heap.size 47 4 (.slice none 0 0) 0 []) := fun w0 => World.ownsRow_nil _ _ _ _
    go_enter Tryd.func21, Tryd.ntmps21
    go_wp2_with (go_at_call 50; refine (blanks_any _ _ hsm.out).mono ?_; rintro e w' ⟨rfl, rfl⟩)
    go_loopw [5, 6, 7, 8] (fun v a _ _ wr => ∃ (k : Nat) (out : List Tok), k ≤ s.size ∧ out.length ≤ k ∧ a = .int .i64 k ∧ wr.ownsRow w.heap.size 47 4 v out.length (toksCells out) ∧ Below w.heap.size w wr ∧ Hid (tokens s = scan s k out)) (fun _ a _ _ _ => s.size - (intOf a).toNat)
    case atStart => exact ⟨_, [], hsk, Nat.zero_le _, rfl, World.ownsRow_nil _ _ _ _, Below.refl _ _, hres⟩
    case round =>
      obtain ⟨k, out, hk, hol, rfl, hown, hB, hsc⟩ := hrel
      have hBs := hB.size
      by_cases hlt : k < s.size
      · have hle := tokenL_le (s.data.toList.drop k)
        rw [List.length_drop, len_bytes] at hle
        have hnx := next_le s k (by omega)
        obtain ⟨n, hn⟩ : ∃ n, (tokenL (s.data.toList.drop k)).2.1 = n := ⟨_, rfl⟩
        obtain ⟨T, hT⟩ : ∃ T, tokAt s k = T := ⟨_, rfl⟩
        have hTn : Hid ((tokenL (s.data.toList.drop k)).2.2 = T.n) := by rw [← hT]; rfl
        have hTp : Hid (T.pos = k) := by rw [← hT]; rfl
        have hTc := Lib.hid (token_at s k T n hT hn)
        have Hn := Lib.hid hn
        have HT := Lib.hid hT
        rw [hn] at hle
        clear hn hT hnx
        by_cases h0 : n = 0
        · subst h0
          go_wp2_with fail
          refine (hTc.out _ (by omega) hlt (hU.below hB)).mono ?_
          rintro e w1 ⟨rfl, hb1⟩
          go_wp2_with fail
          go_ret3
          exact ⟨_, k, 3, rfl, by rw [hsc.out, scan_syntax _ _ _ hlt Hn.out]; exact ⟨rfl, rfl, rfl⟩, (hB.trans (hb1.mono hBs)).alloc (by have := hb1.size; omega) _⟩
        · have t0 : ((n : Int) == 0) = false := beq_f (by omega)
          by_cases hbg : 1099511627776 < T.n
          · go_wp2_with fail
            refine (hTc.out _ (by omega) hlt (hU.below hB)).mono ?_
            rintro e w1 ⟨rfl, hb1⟩
            go_wp2_with fail
            go_ret3
            exact ⟨_, k, 2, rfl, by rw [hsc.out, scan_limit _ _ _ hlt (by rw [Hn.out]; exact h0) (by rw [hTn.out]; exact hbg)]; exact ⟨rfl, rfl, rfl⟩, (hB.trans (hb1.mono hBs)).alloc (by have := hb1.size; omega) _⟩
          · go_wp2_with fail
            refine (hTc.out _ (by omega) hlt (hU.below hB)).mono ?_
            rintro e w1 ⟨rfl, hb1⟩
            have hown1 := ownsRow_below hown hb1 (Nat.le_refl _)
            have hb1s := hb1.size
            have hlen : Hid (out.length + 1 ≤ maxLen) := by unfold Hid maxLen; omega
            go_wp2_with (at_builtin; refine wpList_append_own _ rfl _ _ 42 rfl w.heap.size 47 i0 _ 4 40 Tryd.underlying42 hi hz0 hz1 hz2 rfl (by decide) _ out.length (toksCells out) rfl ((hown1.alloc _).alloc _) ⟨w1.heap.size + 1, 0, none⟩ 1 1 [.int .i64 T.kind, .string T.text, .int .i64 T.n, .int .i64 k] rfl rfl ?c1 ?c2 ?c3 ?c4 ?c5 ?_)
            case c1 =>
              have := news_cells (Blk.new (w1.alloc (.cells #[.int .i64 T.kind, .string T.text, .int .i64 T.n, .int .i64 k] 47)) 47 #[.int .i64 T.kind, .string T.text, .int .i64 T.n, .int .i64 k])
              rw [World.size_alloc] at this
              exact this
            case c2 => simp [Value.oneCell']
            case c3 => exact hlen.out
            case c4 => omega
            case c5 => simp; omega
            intro v' w3 hown3 hg3 _
            have hB3 : Below w.heap.size w w3 := (((hB.trans (hb1.mono hBs)).alloc (by omega) _).alloc (by simp; omega) _).grown hg3 (by simp; omega) (fun g e => (hown1.lt g e).1)
            clear hg3
            have hnx2 : Hid (next s k = k + n + skipB false (s.data.toList.drop (k + n))) := by unfold Hid next; rw [Hn.out]
            have hsk2 := skipB_le false (s.data.toList.drop (k + n))
            rw [List.length_drop, len_bytes] at hsk2
            have hsc2 : Hid (tokens s = scan s (k + n + skipB false (s.data.toList.drop (k + n))) (out ++ [T])) := by
              unfold Hid
              rw [hsc.out, scan_step _ _ _ hlt (by rw [Hn.out]; exact h0) (by rw [hTn.out]; exact hbg), HT.out, hnx2.out]
            go_wp2_with (go_at_call 50; refine (blanks_any _ _ (by have := hsm.out; simp; omega)).mono ?_; rintro e w' ⟨rfl, rfl⟩; rw [extract_end])
            go_roundw
            case rel =>
              refine ⟨k + n + skipB false (s.data.toList.drop (k + n)), out ++ [T], by omega, by simp; omega, by go_num, ?_, hB3, hsc2⟩
              rw [toksCells_snoc, List.length_append]
              unfold tokCells
              rw [hTp.out]
              exact hown3
            case measure => simp [intOf]; omega
      · have hend : Hid (tokens s = .ok out) := by unfold Hid; rw [hsc.out, scan_end _ _ _ (by omega)]
        go_wp2_with fail
        go_ret3
        exact ⟨_, 0, 0, rfl, by rw [hend.out]; exact ⟨rfl, rfl, hown⟩, hB⟩
end Go.Proofs.YtemhiiignamkjaaDoor
