/-
  How a policy is printed (layer 12). Plain, no program.
-/
import Derived.Test.YtemhiiignamkjaaDoorParW2
import Derived.Lib.ItoaLen
namespace Go.Proofs.YtemhiiignamkjaaDoor
namespace ParP
open LexP

def strL (s : ByteArray) : List UInt8 := s.data.toList
theorem strL_len (s : ByteArray) : (strL s).length = s.size := Array.length_toList
theorem strL_app (s t : ByteArray) : strL (s ++ t) = strL s ++ strL t := by
  unfold strL
  rw [ByteArray.data_append, Array.toList_append]
/-- The words of the first k flags that are set. -/
def flagsTxt (z : Int) : Nat → List UInt8
  | 0 => []
  | k + 1 => flagsTxt z k ++ (if z.toNat.testBit k = true then strL (flagWords.getD k ⟨#[]⟩) ++ [59, 32] else [])
def typHead (t : Typ) : List UInt8 := [9, 116, 121, 112, 101, 32] ++ strL t.name ++ [32, 123, 32]
def lifeTxt (z : Int) : List UInt8 := if 0 < z then [108, 105, 102, 101, 32] ++ Lib.itoa z ++ [59, 32] else []
def typTxt (t : Typ) : List UInt8 := typHead t ++ flagsTxt t.flags 7 ++ lifeTxt t.life ++ [125, 10]
def nameOf (ts : List Typ) (z : Int) : ByteArray := (ts.map Typ.name).getD z.toNat ⟨#[]⟩
def rulTxt (ts : List Typ) (r : Rul) : List UInt8 :=
  [9] ++ strL (ruleWords.getD (r.kind.toNat - 1) ⟨#[]⟩) ++ [32] ++ strL (nameOf ts r.a) ++ [32, 45, 62, 32] ++ strL (nameOf ts r.b) ++ [59, 10]
def quoHead (q : Quo) : List UInt8 := [9, 113, 117, 111, 114, 117, 109, 32] ++ strL (wordN q.cmd) ++ [32] ++ Lib.itoa q.count
def delayTxt (z : Int) : List UInt8 := if 0 < z then [32, 97, 102, 116, 101, 114, 32] ++ Lib.itoa z else []
def usesTxt (z : Int) : List UInt8 := if z = 1 then [] else [32, 117, 115, 101, 115, 32] ++ Lib.itoa z
def quoTxt (q : Quo) : List UInt8 := quoHead q ++ delayTxt q.delay ++ [32, 119, 105, 116, 104, 105, 110, 32] ++ Lib.itoa q.valid ++ usesTxt q.uses ++ [59, 10]
def polHead (p : Pol) : List UInt8 := [112, 111, 108, 105, 99, 121, 32] ++ strL p.name ++ [32, 123, 10]
/-- The text of a policy. -/
def printL (p : Pol) : List UInt8 := polHead p ++ p.typs.flatMap typTxt ++ p.ruls.flatMap (rulTxt p.typs) ++ p.quos.flatMap quoTxt ++ [125, 10]
theorem flags_len (k : Nat) : (strL (flagWords.getD k ⟨#[]⟩)).length ≤ 9 := by
  match k with
  | 0 => decide
  | 1 => decide
  | 2 => decide
  | 3 => decide
  | 4 => decide
  | 5 => decide
  | 6 => decide
  | k + 7 => simp [flagWords, strL]
theorem rules_len (k : Nat) : (strL (ruleWords.getD k ⟨#[]⟩)).length ≤ 10 := by
  match k with
  | 0 => decide
  | 1 => decide
  | 2 => decide
  | 3 => decide
  | 4 => decide
  | k + 5 => simp [ruleWords, strL]
theorem commands_len : ∀ x ∈ commandWords, x.size ≤ 12 := by decide
theorem wordN_len (z : Int) : (wordN z).size ≤ 12 := by
  unfold wordN
  split
  · rw [List.getD_eq_getElem?_getD]
    cases h : commandWords[z.toNat - 1]? with
    | none => exact Nat.zero_le _
    | some x => exact commands_len x (List.mem_of_getElem? h)
  · exact Nat.zero_le _
end ParP
end Go.Proofs.YtemhiiignamkjaaDoor
