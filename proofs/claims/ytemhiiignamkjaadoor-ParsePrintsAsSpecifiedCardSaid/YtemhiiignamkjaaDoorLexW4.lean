/-
  The walks of layer 11 (lex): the token at the beginning of a text.
-/
import Derived.Test.YtemhiiignamkjaaDoorLexW3
import Derived.Test.YtemhiiignamkjaaDoorMA
import Derived.Test.YtemhiiignamkjaaDoorKit
namespace Go.Proofs.YtemhiiignamkjaaDoor
open Go.RowKit LexP

theorem bcell {W w1 : World} (hb : Below W.heap.size W w1) : (∀ b o, b < W.heap.size → w1.cell? ⟨b, o, none⟩ = W.cell? ⟨b, o, none⟩) ∧ (∀ b o, b < W.heap.size → w1.frozen? ⟨b, o, none⟩ = W.frozen? ⟨b, o, none⟩) :=
  ⟨fun b o h => hb.cell (p := ⟨b, o, none⟩) h, fun b o h => hb.frozen (p := ⟨b, o, none⟩) h⟩

set_option maxRecDepth 100000 in
set_option maxHeartbeats 1000000 in
theorem token_any (s : ByteArray) (w : World) (hs : s.size ≤ 1048576) (h0 : 0 < s.size) (hU : UnitsAt w) :
    Calls Tryd.prog 51 #[.string s] w fun e w' => e = .returned (.tuple #[.agg #[.int .i64 (tokenL s.data.toList).1, .string (s.extract 0 (tokenL s.data.toList).2.1), .int .i64 (tokenL s.data.toList).2.2, .int .i64 0], .int .i64 (tokenL s.data.toList).2.1]) ∧ Below w.heap.size w w' := by
  have hsm : Hid (s.size ≤ maxLen) := by unfold Hid maxLen; omega
  have hD : Hid (tokenL s.data.toList = if isL s[0] then (1, wordL s.data.toList, 0) else if isD s[0] then (2, (numberL s.data.toList).1, (numberL s.data.toList).2) else (3, signL s.data.toList, 0)) := by
    have := drop_at s 0 h0
    rw [List.drop_zero] at this
    unfold Hid; rw [this]; rfl
  have B2 : ∀ (o o' : Obj), Below w.heap.size w ((w.alloc o).alloc o') := fun o o' => ((Below.refl _ w).alloc (Nat.le_refl _) _).alloc (by simp) _
  cases hl : isL s[0]
  · cases hd : isD s[0]
    · have hv : Hid (tokenL s.data.toList = (3, signL s.data.toList, 0)) := by unfold Hid; rw [hD.out, hl, hd]; rfl
      have hle := signL_le s.data.toList
      rw [len_bytes] at hle
      rw [hv.out]
      go_enter Tryd.func51, Tryd.ntmps51
      go_wp2_with (first | (go_at_call 74; refine (letter_any _ _).mono ?_; rintro e w' ⟨rfl, rfl⟩) | (go_at_call 76; refine (digit_any _ _).mono ?_; rintro e w' ⟨rfl, rfl⟩) | (go_at_call 78; refine (sign_any _ _ h0).mono ?_; rintro e w' ⟨rfl, rfl⟩))
      exact bodyPost_ret (v := .tuple #[.agg #[.int .i64 3, .string (s.extract 0 (signL s.data.toList)), .int .i64 0, .int .i64 0], .int .i64 (signL s.data.toList)]) (by simp [results, Tryd.results51, go_sem]) rfl ⟨rfl, B2 _ _⟩
    · have hv : Hid (tokenL s.data.toList = (2, (numberL s.data.toList).1, (numberL s.data.toList).2)) := by unfold Hid; rw [hD.out, hl, hd]; rfl
      have hle := numberL_le s.data.toList
      rw [len_bytes] at hle
      rw [hv.out]
      have hU2 := hU.lt
      go_enter Tryd.func51, Tryd.ntmps51
      go_wp2_with (first | (go_at_call 74; refine (letter_any _ _).mono ?_; rintro e w' ⟨rfl, rfl⟩) | (go_at_call 76; refine (digit_any _ _).mono ?_; rintro e w' ⟨rfl, rfl⟩))
      refine (number_any s _ hs ((hU.below ((Below.refl _ w).alloc (Nat.le_refl _) _)).below ((Below.refl _ _).alloc (Nat.le_refl _) _))).mono ?_
      rintro e w1 ⟨rfl, hb⟩
      obtain ⟨hc, hf⟩ := bcell hb
      have hz := hb.size
      simp at hz
      go_wp2_with fail
      have hB : Below w.heap.size w w1 := (B2 _ _).trans (hb.mono (by simp; omega))
      refine bodyPost_ret (results_ct (P := Tryd.prog) rfl _ _ w.heap.size 47 #[.int .i64 2, .string (s.extract 0 (numberL s.data.toList).1), .int .i64 (numberL s.data.toList).2, .int .i64 0] _ rfl ?_ Tryd.underlying47 rfl (by kernel_rfl)) rfl ⟨rfl, ?_⟩
      · exact ((((((((Blk.new w 47 _).alloc _).below hb (by simp; omega)).other (a := ⟨w.heap.size + 1, 2, none⟩) (by simp) _).other (a := ⟨w.heap.size + 1, 1, none⟩) (by simp) _).set_ 0 _).set_ 1 _).set_ 2 _).set_ 3 _
      · exact (((((hB.setCell (p := ⟨w.heap.size + 1, 2, none⟩) (Nat.le_succ _) _).setCell (p := ⟨w.heap.size + 1, 1, none⟩) (Nat.le_succ _) _).setCell (p := ⟨w.heap.size, 0, none⟩) (Nat.le_refl _) _).setCell (p := ⟨w.heap.size, 1, none⟩) (Nat.le_refl _) _).setCell (p := ⟨w.heap.size, 2, none⟩) (Nat.le_refl _) _).setCell (p := ⟨w.heap.size, 3, none⟩) (Nat.le_refl _) _
  · have hv : Hid (tokenL s.data.toList = (1, wordL s.data.toList, 0)) := by unfold Hid; rw [hD.out, hl]; rfl
    have hle := wordL_le s.data.toList
    rw [len_bytes] at hle
    rw [hv.out]
    go_enter Tryd.func51, Tryd.ntmps51
    go_wp2_with (first | (go_at_call 74; refine (letter_any _ _).mono ?_; rintro e w' ⟨rfl, rfl⟩) | (go_at_call 75; refine (word_any _ _ hs).mono ?_; rintro e w' ⟨rfl, rfl⟩))
    exact bodyPost_ret (v := .tuple #[.agg #[.int .i64 1, .string (s.extract 0 (wordL s.data.toList)), .int .i64 0, .int .i64 0], .int .i64 (wordL s.data.toList)]) (by simp [results, Tryd.results51, go_sem]) rfl ⟨rfl, B2 _ _⟩
end Go.Proofs.YtemhiiignamkjaaDoor
