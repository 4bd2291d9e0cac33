/-
  More plain mathematics of layer 11 (lex): lengths and values of tokens.
-/
import Derived.Test.YtgieiehpnjhkoabDoorLexPlain
namespace Go.Proofs.YtgieiehpnjhkoabDoor
namespace LexP

theorem signL_le (l : List UInt8) : signL l ≤ l.length := by
  rcases l with _ | ⟨c, _ | ⟨d, r⟩⟩
  · simp [signL]
  · simp only [signL, isArrow]
    cases isSign c <;> simp
  · simp only [signL, List.length_cons]
    cases isArrow (c :: d :: r) <;> cases isSign c <;> simp <;> omega

theorem numberL_le (l : List UInt8) : (numberL l).1 ≤ l.length := by
  have h := runL_le isD l
  unfold numberL
  split
  · simp
  · split
    · rename_i h1
      split
      · simp
      · rcases Nat.lt_or_ge (runL isD l) l.length with h2 | h2
        · exact h2
        · rw [List.drop_eq_nil_of_le h2] at h1; exact absurd h1 (by simp [headU])
    · split
      · simp
      · exact h

theorem numberL_val (l : List UInt8) : (numberL l).2 ≤ 1099511627777 := by
  have h := valL_le 0 (by omega) (l.take (runL isD l))
  unfold numberL
  split
  · simp
  · split
    · split
      · simp
      · exact Nat.min_le_right _ _
    · split
      · simp
      · exact h

theorem tokenL_le (l : List UInt8) : (tokenL l).2.1 ≤ l.length := by
  have h1 := wordL_le l
  have h2 := numberL_le l
  have h3 := signL_le l
  unfold tokenL
  split
  · simp
  · split
    · exact h1
    · split
      · exact h2
      · exact h3

theorem tokenL_val (l : List UInt8) : (tokenL l).2.2 ≤ 1099511627777 := by
  unfold tokenL
  split
  · simp
  · split
    · simp
    · split
      · exact numberL_val (_ :: _)
      · simp

end LexP
end Go.Proofs.YtgieiehpnjhkoabDoor
