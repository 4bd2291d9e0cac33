/-
  How tokens are read as a policy (layer 12). Plain, no program.
-/
import Derived.Test.YtemhiiignamkjaaDoorMA
namespace Go.Proofs.YtemhiiignamkjaaDoor
namespace ParP
open LexP

/-- What reading gives: what was read, and the tokens that are left; or the tokens from the one that does not fit. -/
inductive Rd (α : Type) where
  | ok (rest : List Tok) (x : α)
  | bad (rest : List Tok)
def Rd.bind {α β : Type} (r : Rd α) (f : List Tok → α → Rd β) : Rd β :=
  match r with
  | .ok m x => f m x
  | .bad m => .bad m
/-- One token that satisfies a condition. -/
def take (p : Tok → Bool) : List Tok → Rd Tok
  | [] => .bad []
  | t :: r => if p t then .ok r t else .bad (t :: r)
def isText (s : ByteArray) (t : Tok) : Bool := t.text.toList == s.toList
def isWordT (t : Tok) : Bool := t.kind == 1
def isNumT (t : Tok) : Bool := t.kind == 2
def expect (s : ByteArray) (l : List Tok) : Rd Tok := take (isText s) l
def word (l : List Tok) : Rd Tok := take isWordT l
def num (l : List Tok) : Rd Tok := take isNumT l
/-- The text of the next token; no text at the end. -/
def peek : List Tok → ByteArray
  | [] => ⟨#[]⟩
  | t :: _ => t.text

def wPolicy : ByteArray := ⟨#[112, 111, 108, 105, 99, 121]⟩
def wType : ByteArray := ⟨#[116, 121, 112, 101]⟩
def wQuorum : ByteArray := ⟨#[113, 117, 111, 114, 117, 109]⟩
def wLife : ByteArray := ⟨#[108, 105, 102, 101]⟩
def wAfter : ByteArray := ⟨#[97, 102, 116, 101, 114]⟩
def wWithin : ByteArray := ⟨#[119, 105, 116, 104, 105, 110]⟩
def wUses : ByteArray := ⟨#[117, 115, 101, 115]⟩
def wOpen : ByteArray := ⟨#[123]⟩
def wClose : ByteArray := ⟨#[125]⟩
def wSemi : ByteArray := ⟨#[59]⟩
def wArrow : ByteArray := ⟨#[45, 62]⟩
def flagWords : List ByteArray := [⟨#[103, 101, 110, 101, 114, 97, 116, 101]⟩, ⟨#[105, 109, 112, 111, 114, 116]⟩, ⟨#[101, 120, 112, 111, 114, 116]⟩, ⟨#[101, 110, 99, 114, 121, 112, 116]⟩, ⟨#[100, 101, 99, 114, 121, 112, 116]⟩, ⟨#[109, 97, 99]⟩, ⟨#[112, 114, 111, 116, 101, 99, 116, 101, 100]⟩]
def ruleWords : List ByteArray := [⟨#[119, 114, 97, 112]⟩, ⟨#[117, 110, 119, 114, 97, 112]⟩, ⟨#[114, 97, 119, 45, 119, 114, 97, 112]⟩, ⟨#[114, 97, 119, 45, 117, 110, 119, 114, 97, 112]⟩, ⟨#[100, 101, 114, 105, 118, 101]⟩]
def commandWords : List ByteArray := [⟨#[103, 101, 110, 101, 114, 97, 116, 101]⟩, ⟨#[105, 109, 112, 111, 114, 116]⟩, ⟨#[101, 120, 112, 111, 114, 116]⟩, ⟨#[101, 110, 99, 114, 121, 112, 116]⟩, ⟨#[100, 101, 99, 114, 121, 112, 116]⟩, ⟨#[109, 97, 99]⟩, ⟨#[119, 114, 97, 112]⟩, ⟨#[117, 110, 119, 114, 97, 112]⟩, ⟨#[114, 97, 119, 45, 119, 114, 97, 112]⟩, ⟨#[114, 97, 119, 45, 117, 110, 119, 114, 97, 112]⟩, ⟨#[100, 101, 114, 105, 118, 101]⟩, ⟨#[100, 101, 115, 116, 114, 111, 121]⟩, ⟨#[114, 111, 116, 97, 116, 101]⟩, ⟨#[98, 97, 99, 107, 117, 112]⟩, ⟨#[114, 101, 115, 116, 111, 114, 101]⟩, ⟨#[114, 101, 110, 101, 119]⟩, ⟨#[114, 101, 112, 108, 97, 99, 101]⟩, ⟨#[115, 112, 108, 105, 116]⟩, ⟨#[109, 101, 114, 103, 101]⟩, ⟨#[117, 110, 108, 111, 99, 107]⟩, ⟨#[114, 101, 107, 101, 121]⟩, ⟨#[100, 101, 99, 111, 109, 109, 105, 115, 115, 105, 111, 110]⟩, ⟨#[112, 114, 111, 112, 111, 115, 101]⟩, ⟨#[97, 112, 112, 114, 111, 118, 101]⟩, ⟨#[119, 105, 116, 104, 100, 114, 97, 119]⟩, ⟨#[104, 101, 97, 100]⟩, ⟨#[112, 105, 101, 99, 101]⟩]

/-- The place of a text in a list: the number of those ahead of it (the length, if it is not there). -/
def findW (l : List ByteArray) (s : ByteArray) : Nat := l.findIdx (fun x => x.toList == s.toList)
/-- The kind of a command's word, from 1; 0: no command. -/
def commandN (s : ByteArray) : Nat := if findW commandWords s < 27 then findW commandWords s + 1 else 0

/-- The words within a type: the flags (as a number) and the life. -/
def typLoop : List Tok → Nat → Nat → Bool → Rd (Nat × Nat)
  | [], _, _, _ => .bad []
  | t :: r, fl, lf, life =>
    if isText wClose t then .ok r (fl, lf)
    else if isText wLife t && !life then
      match r with
      | [] => .bad []
      | u :: r2 => if isNumT u then
          match r2 with
          | [] => .bad []
          | v :: r3 => if isText wSemi v then typLoop r3 fl u.n true else .bad (v :: r3)
        else .bad (u :: r2)
    else if findW flagWords t.text < 7 && !fl.testBit (findW flagWords t.text) then
      match r with
      | [] => .bad []
      | v :: r2 => if isText wSemi v then typLoop r2 (fl + 2 ^ findW flagWords t.text) lf life else .bad (v :: r2)
    else .bad (t :: r)

structure PTyp where
  name : Tok
  flags : Nat
  life : Nat
structure PRul where
  kind : Nat
  a : Tok
  b : Tok
structure PQuo where
  cmd : Nat
  count : Nat
  delay : Nat
  valid : Nat
  uses : Nat
/-- A type, after its first word. -/
def rdTyp (l : List Tok) : Rd PTyp :=
  (word l).bind fun l1 nm => (expect wOpen l1).bind fun l2 _ => (typLoop l2 0 0 false).bind fun l3 x => .ok l3 ⟨nm, x.1, x.2⟩
/-- A rule, after its first word. -/
def rdRul (k : Nat) (l : List Tok) : Rd PRul :=
  (word l).bind fun l1 a => (expect wArrow l1).bind fun l2 _ => (word l2).bind fun l3 b => (expect wSemi l3).bind fun l4 _ => .ok l4 ⟨k, a, b⟩
/-- A number that stands behind a word, if the word is there. -/
def opt (s : ByteArray) (z : Nat) (l : List Tok) : Rd Nat :=
  if (peek l).toList == s.toList then (expect s l).bind fun l1 _ => (num l1).bind fun l2 t => .ok l2 t.n else .ok l z
def isCommand (t : Tok) : Bool := decide (0 < commandN t.text)
/-- A quorum, after its first word. -/
def rdQuo (l : List Tok) : Rd PQuo :=
  (take isCommand l).bind fun l1 c => (num l1).bind fun l2 n => (opt wAfter 0 l2).bind fun l3 d => (expect wWithin l3).bind fun l4 _ => (num l4).bind fun l5 v =>
    (opt wUses 1 l5).bind fun l6 u => (expect wSemi l6).bind fun l7 _ => .ok l7 ⟨commandN c.text, n.n, d, v.n, u⟩

/-- What was read of a policy. -/
structure St where
  typs : List PTyp
  ruls : List PRul
  quos : List PQuo
/-- The items of a policy (the number bounds the rounds). -/
def items : Nat → List Tok → St → Rd St
  | _, [], _ => .bad []
  | 0, l, _ => .bad l
  | f + 1, t :: r, st =>
    if isText wClose t then .ok r st
    else if isText wType t then (rdTyp r).bind fun r1 x => items f r1 { st with typs := st.typs ++ [x] }
    else if isText wQuorum t then (rdQuo r).bind fun r1 x => items f r1 { st with quos := st.quos ++ [x] }
    else if findW ruleWords t.text < 5 then (rdRul (findW ruleWords t.text + 1) r).bind fun r1 x => items f r1 { st with ruls := st.ruls ++ [x] }
    else .bad (t :: r)
/-- A policy: its name, and what was read. -/
def policy (l : List Tok) : Rd (Tok × St) :=
  (expect wPolicy l).bind fun l1 _ => (word l1).bind fun l2 nm => (expect wOpen l2).bind fun l3 _ => (items (l3.length + 1) l3 ⟨[], [], []⟩).bind fun l4 st =>
    if l4.isEmpty then .ok [] (nm, st) else .bad l4

/-- The place of the first type with a name. -/
def typIdx (ts : List PTyp) (s : ByteArray) : Nat := ts.findIdx (fun x => x.name.text.toList == s.toList)
/-- The indices of the names that are wrong: a type's that is there already, a rule's that is no type's. -/
def twice : List PTyp → List PTyp → List Tok
  | _, [] => []
  | before, t :: r => (if typIdx before t.name.text < before.length then [t.name] else []) ++ twice (before ++ [t]) r
def missing (ts : List PTyp) (r : PRul) : List Tok :=
  (if typIdx ts r.a.text < ts.length then [] else [r.a]) ++ (if typIdx ts r.b.text < ts.length then [] else [r.b])
def wrongs (st : St) : List Tok := twice [] st.typs ++ st.ruls.flatMap (missing st.typs)
/-- The least index among tokens. -/
def least : List Tok → Option Nat
  | [] => none
  | t :: r => some (match least r with | none => t.pos | some m => min t.pos m)

/-- A type, a rule, a quorum of a policy, whatever their numbers. -/
structure Typ where
  name : ByteArray
  flags : Int
  life : Int
structure Rul where
  kind : Int
  a : Int
  b : Int
structure Quo where
  cmd : Int
  count : Int
  delay : Int
  valid : Int
  uses : Int
structure Pol where
  name : ByteArray
  typs : List Typ
  ruls : List Rul
  quos : List Quo
def noPol : Pol := ⟨⟨#[]⟩, [], [], []⟩
def PTyp.typ (t : PTyp) : Typ := ⟨t.name.text, t.flags, t.life⟩
def PRul.rul (ts : List PTyp) (r : PRul) : Rul := ⟨r.kind, typIdx ts r.a.text, typIdx ts r.b.text⟩
def PQuo.quo (q : PQuo) : Quo := ⟨q.cmd, q.count, q.delay, q.valid, q.uses⟩
/-- What Parse returns. -/
structure Out where
  pol : Pol
  pos : Nat
  err : Int
def parse (s : ByteArray) : Out :=
  match tokens s with
  | .err a e => ⟨noPol, a, e⟩
  | .ok l =>
    match policy l with
    | .bad [] => ⟨noPol, s.size, 3⟩
    | .bad (t :: _) => ⟨noPol, t.pos, 3⟩
    | .ok _ (nm, st) =>
      match least (wrongs st) with
      | some a => ⟨noPol, a, 4⟩
      | none => ⟨⟨nm.text, st.typs.map PTyp.typ, st.ruls.map (PRul.rul st.typs), st.quos.map PQuo.quo⟩, 0, 0⟩

theorem take_nil (p : Tok → Bool) : take p [] = .bad [] := rfl
theorem take_yes {p : Tok → Bool} {t : Tok} (r : List Tok) (h : p t = true) : take p (t :: r) = .ok r t := by rw [take, if_pos h]
theorem take_no {p : Tok → Bool} {t : Tok} (r : List Tok) (h : p t = false) : take p (t :: r) = .bad (t :: r) := by rw [take, if_neg (by rw [h]; decide)]
theorem take_ok {p : Tok → Bool} {l r : List Tok} {t : Tok} (h : take p l = .ok r t) : l = t :: r ∧ p t = true := by
  cases l with
  | nil => cases h
  | cons u v =>
    rw [take] at h
    split at h
    · next hp => cases h; exact ⟨rfl, hp⟩
    · cases h
theorem take_bad {p : Tok → Bool} {l r : List Tok} (h : take p l = .bad r) : r = l := by
  cases l with
  | nil => cases h; rfl
  | cons u v =>
    rw [take] at h
    split at h
    · cases h
    · cases h; rfl
end ParP
end Go.Proofs.YtemhiiignamkjaaDoor
