/-
  Scripts (layer 46) in plain words: kinds, numbers, texts of steps, what is valid, how a script is printed and read. No program.
-/
import Derived.Test.YtldkfhimpkiigaaGreatDoorProg
import Derived.Lib.ItoaNum
namespace Go.Proofs.YtldkfhimpkiigaaGreatDoor
namespace ScrP

/-- A kind: its name, the least and the greatest number of arguments, and whether it may have a text. -/
structure KRow where
  name : ByteArray
  least : Nat
  most : Nat
  text : Bool
def krows : List KRow := [
  ⟨⟨#[]⟩, 0, 0, false⟩,
  ⟨⟨#[99, 117, 115, 116, 111, 100, 105, 97, 110, 115]⟩, 2, 2, false⟩,
  ⟨⟨#[109, 111, 100, 117, 108, 101]⟩, 3, 3, false⟩,
  ⟨⟨#[98, 111, 111, 116]⟩, 1, 1, false⟩,
  ⟨⟨#[99, 111, 109, 109, 97, 110, 100]⟩, 8, 18, true⟩,
  ⟨⟨#[112, 114, 111, 112, 111, 115, 101]⟩, 7, 17, true⟩,
  ⟨⟨#[97, 112, 112, 114, 111, 118, 101]⟩, 3, 3, false⟩,
  ⟨⟨#[119, 105, 116, 104, 100, 114, 97, 119]⟩, 3, 3, false⟩,
  ⟨⟨#[98, 101, 116, 114, 97, 121]⟩, 1, 1, false⟩,
  ⟨⟨#[101, 110, 116, 101, 114]⟩, 3, 3, false⟩,
  ⟨⟨#[116, 105, 99, 107]⟩, 1, 1, false⟩,
  ⟨⟨#[116, 114, 105, 112]⟩, 2, 2, false⟩,
  ⟨⟨#[109, 111, 117, 110, 116]⟩, 1, 17, false⟩,
  ⟨⟨#[115, 101, 110, 115, 101]⟩, 3, 3, false⟩,
  ⟨⟨#[98, 97, 116, 116, 101, 114, 121]⟩, 1, 1, false⟩,
  ⟨⟨#[105, 109, 97, 103, 101]⟩, 1, 1, false⟩,
  ⟨⟨#[112, 117, 116]⟩, 2, 2, false⟩,
  ⟨⟨#[115, 116, 97, 108, 101]⟩, 2, 2, false⟩,
  ⟨⟨#[119, 101, 97, 114]⟩, 2, 2, false⟩,
  ⟨⟨#[114, 101, 115, 101, 116]⟩, 2, 2, false⟩,
  ⟨⟨#[115, 101, 115, 115, 105, 111, 110]⟩, 2, 2, false⟩,
  ⟨⟨#[115, 101, 110, 100]⟩, 8, 18, true⟩,
  ⟨⟨#[114, 101, 112, 108, 97, 121]⟩, 2, 2, false⟩,
  ⟨⟨#[97, 117, 100, 105, 116]⟩, 1, 1, false⟩]
structure Stp where
  kind : Int
  args : List Int
  text : ByteArray
structure Scr where
  texts : List ByteArray
  steps : List Stp
def noScr : Scr := ⟨[], []⟩
def noRow : KRow := ⟨⟨#[]⟩, 0, 0, false⟩
def isKindB (z : Int) : Bool := decide (1 ≤ z) && decide (z < 24)
def rowOf (z : Int) : KRow := krows.getD z.toNat noRow
def nameN (z : Int) : ByteArray := if isKindB z then (rowOf z).name else ⟨#[]⟩
/-- The kind with a name; 0: there is none. -/
def kindN (s : ByteArray) : Nat := if s.size = 0 then 0 else (let k := krows.findIdx fun r => r.name.toList == s.toList; if k < 24 then k else 0)

/-! Numbers in decimal notation, of at most 13 digits, without leading zeros. -/
def isD (c : UInt8) : Bool := decide (48 ≤ c.toNat) && decide (c.toNat ≤ 57)
def decVal (l : List UInt8) : Nat := l.foldl (fun n c => 10 * n + (c.toNat - 48)) 0
def decOk (l : List UInt8) : Bool := decide (1 ≤ l.length) && decide (l.length ≤ 13) && l.all isD && (decide (l.length = 1) || !(l.head? == some 48))
/-- What Data returns. -/
structure DataR where
  text : ByteArray
  num : Int
  err : Int
def dataR (t : ByteArray) : DataR :=
  match t.data.toList with
  | [] => ⟨⟨#[]⟩, -1, 0⟩
  | c :: r =>
    if c = 61 ∧ t.size ≤ 4001 then ⟨⟨r.toArray⟩, -1, 0⟩
    else if c = 64 ∧ decOk r = true ∧ decVal r ≤ 65535 then ⟨⟨#[]⟩, decVal r, 0⟩
    else ⟨⟨#[]⟩, -1, 1⟩
def argOk (a : Int) : Bool := decide (0 ≤ a) && decide (a ≤ 2199023255552)
def stepOk (x : Stp) : Bool :=
  isKindB x.kind && (decide ((rowOf x.kind).least ≤ x.args.length) && (decide (x.args.length ≤ (rowOf x.kind).most) && (((rowOf x.kind).text || decide (x.text.size = 0)) && (x.args.all argOk && decide ((dataR x.text).err = 0)))))
/-- A byte that a text may not have. -/
def oddB (c : UInt8) : Bool := !(c == 10) && (decide (c.toNat < 32) || decide (126 < c.toNat))
def oddT (t : ByteArray) : Bool := t.data.toList.any oddB
/-- What Check returns. -/
def checkS (s : Scr) : Int × Int :=
  if 8 < s.texts.length ∨ 400 < s.steps.length ∨ (s.texts.any fun t => decide (4000 < t.size)) = true then (-1, 2)
  else if s.texts.any oddT = true then (-1, 1)
  else if s.steps.findIdx (fun x => !stepOk x) < s.steps.length then ((s.steps.findIdx (fun x => !stepOk x) : Nat), 1)
  else (0, 0)

/-! Printing. -/
def textB (t : ByteArray) : List UInt8 := [116, 101, 120, 116, 10, 124] ++ (t.data.toList.flatMap fun c => if c = 10 then [10, 124] else [c]) ++ [10]
def hexD (n : Nat) : UInt8 := if n < 10 then UInt8.ofNat (48 + n) else UInt8.ofNat (87 + n)
def hexB (l : List UInt8) : List UInt8 := l.flatMap fun c => [hexD (c.toNat / 16), hexD (c.toNat % 16)]
def dataB (t : ByteArray) : List UInt8 :=
  match t.data.toList with
  | [] => []
  | c :: r => if c = 64 then 32 :: 64 :: r else 32 :: 61 :: hexB r
def argsB (l : List Int) : List UInt8 := l.flatMap fun a => 32 :: Lib.itoa a
def stepB (x : Stp) : List UInt8 := (nameN x.kind).data.toList ++ argsB x.args ++ dataB x.text ++ [10]
def printB (s : Scr) : List UInt8 := s.texts.flatMap textB ++ s.steps.flatMap stepB
/-- What Print returns. -/
def printS (s : Scr) : List UInt8 × Int := if (checkS s).2 = 0 then (printB s, 0) else ([], (checkS s).2)

/-! Reading. -/
/-- The parts between the bytes c. -/
def partsB (c : UInt8) : List UInt8 → List (List UInt8)
  | [] => [[]]
  | x :: r => if x = c then [] :: partsB c r else
    match partsB c r with
    | [] => [[x]]
    | h :: t => (x :: h) :: t
def wordsB (l : List UInt8) : List (List UInt8) := (partsB 32 l).filter fun w => !w.isEmpty
def unD (c : UInt8) : Option Nat := if 48 ≤ c.toNat ∧ c.toNat ≤ 57 then some (c.toNat - 48) else if 97 ≤ c.toNat ∧ c.toNat ≤ 102 then some (c.toNat - 87) else none
def unhex : List UInt8 → Option (List UInt8)
  | [] => some []
  | [_] => none
  | a :: b :: r => match unD a, unD b, unhex r with
    | some x, some y, some l => some (UInt8.ofNat (16 * x + y) :: l)
    | _, _, _ => none
/-- The Text that a word denotes. -/
def literalB (w : List UInt8) : Option (List UInt8) := if w.head? = some 64 then some w else (unhex w.tail).map (61 :: ·)
def isLit (w : List UInt8) : Bool := w.head? == some 64 || w.head? == some 61
/-- The arguments and the text of a step: of the words behind the first one. -/
def restB (l : List (List UInt8)) : Option (List Int × List UInt8) :=
  match l.getLast? with
  | none => some ([], [])
  | some w =>
    if isLit w then
      match literalB w with
      | none => none
      | some t => if l.dropLast.all decOk then some (l.dropLast.map fun w => (decVal w : Int), t) else none
    else if l.all decOk then some (l.map fun w => (decVal w : Int), []) else none
/-- The step of a line's words, or the error. -/
def stepW (l : List (List UInt8)) : Except Int Stp :=
  match l with
  | [] => .error 4
  | w :: r =>
    if kindN ⟨w.toArray⟩ = 0 then .error 4
    else match restB r with
      | none => .error 3
      | some (args, t) => if stepOk ⟨kindN ⟨w.toArray⟩, args, ⟨t.toArray⟩⟩ then .ok ⟨kindN ⟨w.toArray⟩, args, ⟨t.toArray⟩⟩ else .error 1
/-- What Parse returns. -/
structure ParR where
  scr : Scr
  line : Nat
  err : Int
def isBar (l : List UInt8) : Bool := l.head? == some 124
def isVoid (l : List UInt8) : Bool := (wordsB l).isEmpty || l.head? == some 35
def isTextL (l : List UInt8) : Bool := wordsB l == [[116, 101, 120, 116]]
/-- One more line in the last text. -/
def addLine (ts : List ByteArray) (empty : Bool) (l : List UInt8) : List ByteArray :=
  match ts.getLast? with
  | none => []
  | some t => ts.dropLast ++ [⟨(t.data.toList ++ (if empty then [] else [10]) ++ l.tail).toArray⟩]
/-- The lines from the line k (counted from 0) on: what was read, whether the line before belongs to a text, and whether it is its first line. -/
def readL : List (List UInt8) → Nat → Scr → Bool → Bool → ParR
  | [], k, s, o, e =>
    if o && e then ⟨noScr, k, 3⟩ else if (checkS s).2 = 0 then ⟨s, 0, 0⟩ else ⟨noScr, 0, (checkS s).2⟩
  | l :: r, k, s, o, e =>
    if isBar l then
      if o then readL r (k + 1) ⟨addLine s.texts e l, s.steps⟩ true false else ⟨noScr, k + 1, 3⟩
    else if o && e then ⟨noScr, k, 3⟩
    else if isVoid l then readL r (k + 1) s false e
    else if isTextL l then readL r (k + 1) ⟨s.texts ++ [⟨#[]⟩], s.steps⟩ true true
    else match stepW (wordsB l) with
      | .error c => ⟨noScr, k + 1, c⟩
      | .ok x => readL r (k + 1) ⟨s.texts, s.steps ++ [x]⟩ false e
def parseS (t : List UInt8) : ParR := readL (partsB 10 t) 0 noScr false false
/-- Whether two scripts are equal. -/
def sameS (a b : Scr) : Bool := a.texts.map ByteArray.toList == b.texts.map ByteArray.toList && (a.steps.length == b.steps.length && (List.zip a.steps b.steps).all fun p => decide (p.1.kind = p.2.kind) && (p.1.text.toList == p.2.text.toList && decide (p.1.args = p.2.args)))
end ScrP
end Go.Proofs.YtldkfhimpkiigaaGreatDoor
