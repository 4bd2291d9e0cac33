/-
  Layer 23 (device), plain: a device, its steps.
-/
import Derived.Test.YtcifkahmeimniaaDevT3
namespace Go.Proofs.Ytcifkahmeimniaa

structure Dev where
  slots : List ByteArray
  fuses : List Bool
  counter : Int
  clock : Int
  M : List Sec
  down : Bool
  left : Int

/-- One step: the error's number, the new device. -/
def Dev.dstep (D : Dev) (check : Int) (f : Dev → Dev) : Int × Dev :=
  if D.down = true then (14, D)
  else if check ≠ 0 then (check, D)
  else if D.left = 0 then (14, { D with down := true, left := -1 })
  else (0, f { D with left := max (D.left - 1) (-1) })

/-- The text of an operation. -/
def dtext (fill : Nat) (short : Bool) (n : Nat) : ByteArray :=
  ⟨((List.range (if short then n - 1 else n)).map fun i => UInt8.ofNat (fill + i % 5)).toArray⟩
def zero32 : ByteArray := ⟨(List.replicate 32 (0 : UInt8)).toArray⟩

structure DOp where
  kind : Int
  a : Int
  b : Int
  fill : Nat
  short : Bool
  picks : List Int

/-- What an operation answers. -/
structure DRes where
  text : ByteArray
  e : Int

def chk (p : Prop) [Decidable p] : Int := if p then 0 else 1
def inS {α : Type} (l : List α) (i : Int) : Prop := 0 ≤ i ∧ i < l.length
instance {α : Type} (l : List α) (i : Int) : Decidable (inS l i) := inferInstanceAs (Decidable (_ ∧ _))

/-- The answer of a step. -/
def pack (r : Int × Dev) (img : List ByteArray) : DRes × Dev × List ByteArray := (⟨⟨#[]⟩, r.1⟩, r.2, img)
/-- One operation of a script: the answer, the new device, the new image. -/
def dplay (o : DOp) (D : Dev) (img : List ByteArray) : DRes × Dev × List ByteArray :=
  if o.kind = 1 then (if D.down then ⟨⟨#[]⟩, 14⟩ else if isAt D.M o.a then ⟨(D.M.getD o.a.toNat default).seen, 0⟩ else ⟨⟨#[]⟩, 1⟩, D, img)
  else if o.kind = 2 then pack (D.dstep (chk (isAt D.M o.a ∧ (dtext o.fill o.short 64).size = 64)) fun D => { D with M := upd (fun s => s.write (dtext o.fill o.short 64)) D.M o.a }) img
  else if o.kind = 3 then pack (D.dstep 0 fun D => { D with M := doneM (fun _ => 64) D.M (idxs Sec.dirty D.M) }) img
  else if o.kind = 4 then (if D.down then ⟨⟨#[]⟩, 14⟩ else if inS D.slots o.a then ⟨D.slots.getD o.a.toNat ⟨#[]⟩, 0⟩ else ⟨⟨#[]⟩, 1⟩, D, img)
  else if o.kind = 5 then pack (D.dstep (chk (inS D.slots o.a ∧ (dtext o.fill o.short 32).size = 32)) fun D => { D with slots := D.slots.set o.a.toNat (dtext o.fill o.short 32) }) img
  else if o.kind = 6 then pack (D.dstep (chk (inS D.fuses o.a)) fun D => { D with fuses := D.fuses.set o.a.toNat true }) img
  else if o.kind = 7 then pack (D.dstep (if 0 ≤ o.a ∧ o.a ≤ 4611686018427387904 then (if o.a < D.counter then 20 else 0) else 1) fun D => { D with counter := o.a }) img
  else if o.kind = 8 then
    if o.a < 0 ∨ 1099511627776 - D.clock < o.a then (⟨⟨#[]⟩, 1⟩, D, img) else (⟨⟨#[]⟩, 0⟩, { D with clock := D.clock + o.a }, img)
  else if o.kind = 9 then (⟨⟨#[]⟩, 0⟩, { D with left := max o.a (-1) }, img)
  else if o.kind = 10 then (⟨⟨#[]⟩, 0⟩, { D with M := doneM (pick o.picks) D.M (idxs Sec.dirty D.M), down := false, left := -1 }, img)
  else if o.kind = 11 then (⟨⟨#[]⟩, 0⟩, { D with slots := List.replicate D.slots.length zero32 }, img)
  else if o.kind = 12 then (⟨⟨#[]⟩, chk (isAt D.M o.a)⟩, { D with M := if isAt D.M o.a then upd Sec.stale D.M o.a else D.M }, img)
  else if o.kind = 13 then (⟨⟨#[]⟩, chk (isAt D.M o.a)⟩, { D with M := if isAt D.M o.a then upd Sec.wear D.M o.a else D.M }, img)
  else if o.kind = 14 then (⟨⟨#[]⟩, 0⟩, D, D.M.map Sec.now)
  else if o.kind = 15 then (⟨⟨#[]⟩, if loadErr img D.M then 1 else 0⟩, { D with M := if loadErr img D.M then D.M else loadM img D.M }, img)
  else (⟨⟨#[]⟩, 0⟩, D, img)
end Go.Proofs.Ytcifkahmeimniaa
