/-
  How a text is cut into tokens (layer 11): the scan, token by token. Plain, no program.
-/
import Derived.Test.YtgieiehpnjhkoabDoorLexPlain2
namespace Go.Proofs.YtgieiehpnjhkoabDoor
namespace LexP

structure Tok where
  kind : Nat
  text : ByteArray
  n : Nat
  pos : Nat

inductive Res where
  | ok (l : List Tok)
  | err (pos : Nat) (e : Int)

/-- The token that begins at index a. -/
def tokAt (s : ByteArray) (a : Nat) : Tok := ⟨(tokenL (s.data.toList.drop a)).1, s.extract a (a + (tokenL (s.data.toList.drop a)).2.1), (tokenL (s.data.toList.drop a)).2.2, a⟩

/-- The index behind the token that begins at a and what is blank behind it. -/
def next (s : ByteArray) (a : Nat) : Nat := a + (tokenL (s.data.toList.drop a)).2.1 + skipB false (s.data.toList.drop (a + (tokenL (s.data.toList.drop a)).2.1))

def scan (s : ByteArray) (a : Nat) (out : List Tok) : Res :=
  if a < s.size then
    if _h0 : (tokenL (s.data.toList.drop a)).2.1 = 0 then .err a 3
    else if 1099511627776 < (tokenL (s.data.toList.drop a)).2.2 then .err a 2
    else scan s (next s a) (out ++ [tokAt s a])
  else .ok out
  termination_by s.size - a
  decreasing_by unfold next; omega

def tokens (s : ByteArray) : Res := if 4000 < s.size then .err 0 2 else scan s (skipB false s.data.toList) []

theorem scan_end (s : ByteArray) (a : Nat) (out : List Tok) (h : s.size ≤ a) : scan s a out = .ok out := by
  rw [scan, if_neg (by omega)]
theorem scan_syntax (s : ByteArray) (a : Nat) (out : List Tok) (h : a < s.size) (h0 : (tokenL (s.data.toList.drop a)).2.1 = 0) : scan s a out = .err a 3 := by
  rw [scan, if_pos h, dif_pos h0]
theorem scan_limit (s : ByteArray) (a : Nat) (out : List Tok) (h : a < s.size) (h0 : (tokenL (s.data.toList.drop a)).2.1 ≠ 0) (h1 : 1099511627776 < (tokenL (s.data.toList.drop a)).2.2) : scan s a out = .err a 2 := by
  rw [scan, if_pos h, dif_neg h0, if_pos h1]
theorem scan_step (s : ByteArray) (a : Nat) (out : List Tok) (h : a < s.size) (h0 : (tokenL (s.data.toList.drop a)).2.1 ≠ 0) (h1 : ¬ 1099511627776 < (tokenL (s.data.toList.drop a)).2.2) : scan s a out = scan s (next s a) (out ++ [tokAt s a]) := by
  rw [scan, if_pos h, dif_neg h0, if_neg h1]

theorem next_le (s : ByteArray) (a : Nat) (h : a ≤ s.size) : next s a ≤ s.size := by
  have hl : s.data.toList.length = s.size := Array.length_toList
  have h1 := tokenL_le (s.data.toList.drop a)
  have h2 := skipB_le false (s.data.toList.drop (a + (tokenL (s.data.toList.drop a)).2.1))
  rw [List.length_drop] at h1 h2
  unfold next
  omega
end LexP
end Go.Proofs.YtgieiehpnjhkoabDoor
