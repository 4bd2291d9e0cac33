/-
  How a policy is printed (layer 12). Plain, no program.
  Layer 12 (parse), printing: what a policy that can be printed keeps; a printed text in memory.
-/
import Derived.Test.YtemhiiignamkjaaDoorParW2
import Derived.Lib.ItoaLen
import Derived.Test.YtemhiiignamkjaaDoorParX4
import Derived.Test.YtemhiiignamkjaaDoorNI
namespace Go.Proofs.YtemhiiignamkjaaDoor
namespace ParP
open LexP

def strL (s : ByteArray) : List UInt8 := s.data.toList
theorem strL_len (s : ByteArray) : (strL s).length = s.size := Array.length_toList
theorem strL_app (s t : ByteArray) : strL (s ++ t) = strL s ++ strL t := by
  unfold strL
  rw [ByteArray.data_append, Array.toList_append]
/-- The words of the first k flags that are set. -/
def flagsTxt (z : Int) : Nat → List UInt8
  | 0 => []
  | k + 1 => flagsTxt z k ++ (if z.toNat.testBit k = true then strL (flagWords.getD k ⟨#[]⟩) ++ [59, 32] else [])
def typHead (t : Typ) : List UInt8 := [9, 116, 121, 112, 101, 32] ++ strL t.name ++ [32, 123, 32]
def lifeTxt (z : Int) : List UInt8 := if 0 < z then [108, 105, 102, 101, 32] ++ Lib.itoa z ++ [59, 32] else []
def typTxt (t : Typ) : List UInt8 := typHead t ++ flagsTxt t.flags 7 ++ lifeTxt t.life ++ [125, 10]
def nameOf (ts : List Typ) (z : Int) : ByteArray := (ts.map Typ.name).getD z.toNat ⟨#[]⟩
def rulTxt (ts : List Typ) (r : Rul) : List UInt8 :=
  [9] ++ strL (ruleWords.getD (r.kind.toNat - 1) ⟨#[]⟩) ++ [32] ++ strL (nameOf ts r.a) ++ [32, 45, 62, 32] ++ strL (nameOf ts r.b) ++ [59, 10]
def quoHead (q : Quo) : List UInt8 := [9, 113, 117, 111, 114, 117, 109, 32] ++ strL (wordN q.cmd) ++ [32] ++ Lib.itoa q.count
def delayTxt (z : Int) : List UInt8 := if 0 < z then [32, 97, 102, 116, 101, 114, 32] ++ Lib.itoa z else []
def usesTxt (z : Int) : List UInt8 := if z = 1 then [] else [32, 117, 115, 101, 115, 32] ++ Lib.itoa z
def quoTxt (q : Quo) : List UInt8 := quoHead q ++ delayTxt q.delay ++ [32, 119, 105, 116, 104, 105, 110, 32] ++ Lib.itoa q.valid ++ usesTxt q.uses ++ [59, 10]
def polHead (p : Pol) : List UInt8 := [112, 111, 108, 105, 99, 121, 32] ++ strL p.name ++ [32, 123, 10]
/-- The text of a policy. -/
def printL (p : Pol) : List UInt8 := polHead p ++ p.typs.flatMap typTxt ++ p.ruls.flatMap (rulTxt p.typs) ++ p.quos.flatMap quoTxt ++ [125, 10]
theorem flags_len (k : Nat) : (strL (flagWords.getD k ⟨#[]⟩)).length ≤ 9 := by
  match k with
  | 0 => decide
  | 1 => decide
  | 2 => decide
  | 3 => decide
  | 4 => decide
  | 5 => decide
  | 6 => decide
  | k + 7 => simp [flagWords, strL]
theorem rules_len (k : Nat) : (strL (ruleWords.getD k ⟨#[]⟩)).length ≤ 10 := by
  match k with
  | 0 => decide
  | 1 => decide
  | 2 => decide
  | 3 => decide
  | 4 => decide
  | k + 5 => simp [ruleWords, strL]
theorem commands_len : ∀ x ∈ commandWords, x.size ≤ 12 := by decide
theorem wordN_len (z : Int) : (wordN z).size ≤ 12 := by
  unfold wordN
  split
  · rw [List.getD_eq_getElem?_getD]
    cases h : commandWords[z.toNat - 1]? with
    | none => exact Nat.zero_le _
    | some x => exact commands_len x (List.mem_of_getElem? h)
  · exact Nat.zero_le _
end ParP
end Go.Proofs.YtemhiiignamkjaaDoor
namespace Go.Proofs.YtemhiiignamkjaaDoor
open Go.RowKit LexP ParP
attribute [local go_sem] Oper.semAt_some

/-- The numbers of a policy that can be printed. -/
structure PrOk (p : Pol) : Prop where
  name : p.name.size ≤ 4000
  typs : ∀ t ∈ p.typs, t.name.size ≤ 4000 ∧ 0 ≤ t.flags ∧ t.flags ≤ 127 ∧ 0 ≤ t.life ∧ t.life ≤ 1099511627776
  ruls : ∀ r ∈ p.ruls, 1 ≤ r.kind ∧ r.kind ≤ 5 ∧ 0 ≤ r.a ∧ r.a < p.typs.length ∧ 0 ≤ r.b ∧ r.b < p.typs.length
  quos : ∀ q ∈ p.quos, 1 ≤ q.cmd ∧ q.cmd ≤ 27 ∧ (0 ≤ q.count ∧ q.count ≤ 1099511627776) ∧ (0 ≤ q.delay ∧ q.delay ≤ 1099511627776) ∧ (0 ≤ q.valid ∧ q.valid ≤ 1099511627776) ∧ 0 ≤ q.uses ∧ q.uses ≤ 1099511627776
theorem withinB_iff {m : Int} {l : List Int} : withinB m l = true ↔ ∀ x ∈ l, 0 ≤ x ∧ x ≤ m := by
  unfold withinB
  rw [List.all_eq_true]
  constructor
  · intro h x hx
    have := h x hx
    simp only [Bool.and_eq_true, Bool.not_eq_true', decide_eq_false_iff_not] at this
    omega
  · intro h x hx
    have := h x hx
    simp only [Bool.and_eq_true, Bool.not_eq_true', decide_eq_false_iff_not]
    omega
theorem isWordB_size {s : ByteArray} (h : isWordB s = true) : s.size ≤ 4000 := by
  unfold isWordB at h
  cases ht : tokens s with
  | ok l => exact (tokens_chain s l ht).1
  | err a e => rw [ht] at h; cases h
theorem typsOk_each : ∀ (l : List Typ) (seen : List ByteArray), typsOk seen l = true → ∀ t ∈ l, ∃ sn, typOk sn t = true
  | [], _, _, t, ht => by cases ht
  | a :: l, seen, h, t, ht => by
    unfold typsOk at h
    rw [Bool.and_eq_true] at h
    rcases List.mem_cons.1 ht with rfl | ht
    · exact ⟨_, h.1⟩
    · exact typsOk_each l _ h.2 t ht
theorem prOk (p : Pol) (ho : PolOk p) (h : printableB p = true) : PrOk p := by
  unfold printableB at h
  simp only [Bool.and_eq_true] at h
  obtain ⟨⟨⟨h1, h2⟩, h3⟩, h4⟩ := h
  refine ⟨isWordB_size h1, fun t ht => ?_, fun r hr => ?_, fun q hq => ?_⟩
  · obtain ⟨sn, hs⟩ := typsOk_each _ _ h2 t ht
    unfold typOk at hs
    simp only [Bool.and_eq_true] at hs
    obtain ⟨⟨⟨a, _⟩, b⟩, c⟩ := hs
    have b2 := withinB_iff.1 b t.flags (by simp)
    have c2 := withinB_iff.1 c t.life (by simp)
    exact ⟨isWordB_size a, b2.1, b2.2, c2.1, c2.2⟩
  · have := List.all_eq_true.1 h3 r hr
    unfold rulOk at this
    rw [Bool.and_eq_true] at this
    have a := withinB_iff.1 this.1 _ (by simp; rfl)
    have b := withinB_iff.1 this.2 r.a (by simp)
    have c := withinB_iff.1 this.2 r.b (by simp)
    obtain ⟨⟨k1, k2⟩, _⟩ := ho.ruls r hr
    have e : wrap64 (r.kind - 1) = r.kind - 1 ∨ r.kind - 1 < -9223372036854775808 := by
      rcases Int.lt_or_le (r.kind - 1) (-9223372036854775808) with e | e
      · exact .inr e
      · exact .inl (by rw [wrap64]; omega)
    rcases e with e | e
    · rw [e] at a
      refine ⟨?_, ?_, b.1, ?_, c.1, ?_⟩ <;> omega
    · exfalso
      have hk : r.kind = -9223372036854775808 := by omega
      rw [hk] at a
      have : wrap64 (-9223372036854775808 - 1) = 9223372036854775807 := by kernel_rfl
      rw [this] at a
      omega
  · have := List.all_eq_true.1 h4 q hq
    unfold quoOk at this
    rw [Bool.and_eq_true] at this
    obtain ⟨a, b⟩ := this
    have b := withinB_iff.1 b
    have hc : 1 ≤ q.cmd ∧ q.cmd ≤ 27 := by
      by_cases hc : 1 ≤ q.cmd ∧ q.cmd ≤ 27
      · exact hc
      · exfalso
        unfold wordN at a
        rw [if_neg hc] at a
        exact absurd a (by rw [show (!((⟨#[]⟩ : ByteArray).toList == [])) = false by kernel_rfl]; decide)
    exact ⟨hc.1, hc.2, b q.count (by simp), b q.delay (by simp), b q.valid (by simp), b q.uses (by simp)⟩
/-- A text that is being printed, and what lies beside it. -/
structure PrE (w wr : World) (g b q : Nat) (nm vt vr vq : Value) (L : List UInt8) (N : Nat) : Prop where
  bel : Below w.heap.size w wr
  box : Blk wr g 27 #[nm, vt, vr, vq]
  put : Blk wr q 89 #[.func (.func 37) #[] #[.pointer (some ⟨b, 0, none⟩)]]
  bis : BIs wr w.heap.size b L
  len : L.length ≤ N
section
variable {w w1 W : World} {g b q : Nat} {nm vt vr vq : Value} {L : List UInt8} {N : Nat}
theorem PrE.below (h : PrE w w1 g b q nm vt vr vq L N) (hB : Below w1.heap.size w1 W) : PrE w W g b q nm vt vr vq L N :=
  ⟨h.bel.trans (hB.mono h.bel.size), h.box.below hB h.box.lt, h.put.below hB h.put.lt, h.bis.below hB, h.len⟩
theorem PrE.up (h : PrE w w1 g b q nm vt vr vq L N) {M : Nat} (hN : N ≤ M) : PrE w w1 g b q nm vt vr vq L M := ⟨h.bel, h.box, h.put, h.bis, Nat.le_trans h.len hN⟩
theorem PrE.is (h : PrE w w1 g b q nm vt vr vq L N) {M : List UInt8} (hN : L = M) : PrE w w1 g b q nm vt vr vq M N := hN ▸ h
theorem cat_len (xs : List ByteArray) : (cat xs).length = (xs.map ByteArray.size).sum := by
  induction xs with
  | nil => rfl
  | cons x xs ih =>
    have e : (cat (x :: xs)) = x.data.toList ++ cat xs := rfl
    rw [e, List.length_append, ih, List.map_cons, List.sum_cons]
    rfl
theorem putE (E : PrE w w1 g b q nm vt vr vq L N) (hB : Below w1.heap.size w1 W) (sb c k : Nat) (xs : List ByteArray) (hk : (cat xs).length ≤ k) (hN : N + k ≤ 1000000000) (hx : xs.length ≤ 1000) (hs : Blk W sb 9 (xs.map Value.string).toArray) :
    Calls Tryd.prog 37 #[.slice (some ⟨sb, 0, none⟩) xs.length c, .pointer (some ⟨b, 0, none⟩)] W fun e w' => e = .returned (.tuple #[]) ∧ PrE w w' g b q nm vt vr vq (L ++ cat xs) (N + k) ∧ Kept8 w1 w' b := by
  refine (put_any W w.heap.size b sb c L xs (E.bis.below hB) hs (by have := E.len; omega) hx).mono ?_
  rintro e w' ⟨rfl, h1, h2, h3⟩
  have k1 := (kept_below hB b).trans h3
  exact ⟨rfl, ⟨(E.bel.trans (hB.mono E.bel.size)).trans h2, k1 _ _ _ (E.bis.ne E.box (by decide)) (by decide) E.box, k1 _ _ _ (E.bis.ne E.put (by decide)) (by decide) E.put, h1, by rw [List.length_append]; have := E.len; omega⟩, k1⟩
theorem numE (E : PrE w w1 g b q nm vt vr vq L N) (hB : Below w1.heap.size w1 W) (word : ByteArray) (n : Int) (k : Nat) (h0 : -9223372036854775808 ≤ n) (h1 : n ≤ 9223372036854775807) (hk : word.size + 21 ≤ k) (hN : N + k ≤ 1000000000) (hp : PowAt w) :
    Calls Tryd.prog 39 #[.string word, .int .i64 n, .pointer (some ⟨q, 0, none⟩)] W fun e w' => e = .returned (.tuple #[]) ∧ PrE w w' g b q nm vt vr vq (L ++ (strL word ++ Lib.itoa n)) (N + k) ∧ Kept8 w1 w' b := by
  have hi := Lib.itoa_length_le n h0 h1
  have E2 := E.below hB
  refine (numP_any W w.heap.size b q L word n h0 h1 E2.bis E2.put (by have := E.len; omega) (hp.below E2.bel)).mono ?_
  rintro e w' ⟨rfl, h1, h2, h3⟩
  have k1 := (kept_below hB b).trans h3
  have hs : word.data.toList.length = word.size := Array.length_toList
  exact ⟨rfl, ⟨E2.bel.trans h2, k1 _ _ _ (E.bis.ne E.box (by decide)) (by decide) E.box, k1 _ _ _ (E.bis.ne E.put (by decide)) (by decide) E.put, by rw [← List.append_assoc]; exact h1, by unfold strL; rw [List.length_append, List.length_append, hs]; have := E.len; omega⟩, k1⟩
theorem PrE.keeps (E : PrE w w1 g b q nm vt vr vq L N) (h : Kept8 w1 W b) {k : Nat} {t : TypeId} {cs : Array Value} (hb : Blk w1 k t cs) (h1 : t ≠ 84) (h2 : t ≠ 5) : Blk W k t cs := h _ _ _ (E.bis.ne hb h1) h2 hb
end
theorem PolAt.mono {w : World} {B C : Nat} {v : Value} {p : Pol} (h : PolAt w B v p) (hB : B ≤ C) : PolAt w C v p := by
  have up : ∀ {v n cs}, RowAt w B v n cs → RowAt w C v n cs := by
    rintro v n cs ⟨A, c, hv, h⟩
    refine ⟨A, c, hv, fun hl => ?_⟩
    obtain ⟨b, o, hA, hbl, h⟩ := h hl
    exact ⟨b, o, hA, Nat.lt_of_lt_of_le hbl hB, h⟩
  obtain ⟨vt, vr, vq, hv, h1, h2, h3⟩ := h
  exact ⟨vt, vr, vq, hv, up h1, up h2, up h3⟩
/-- What Print returns. -/
def printP (p : Pol) : ByteArray × Int :=
  if printableB p = true then if 4000 < (printL p).length then (⟨#[]⟩, 2) else (⟨(printL p).toArray⟩, 0) else (⟨#[]⟩, 1)
theorem flag_bit1 {fl k : Nat} (hf : fl < 128) (hk : k < 7) : (bits BinOp.and IntKind.i64 ((fl : Int) / 2 ^ k) 1 == 1) = fl.testBit k := by
  have h : ((List.range 128).all fun f => (List.range 7).all fun j => (bits BinOp.and IntKind.i64 ((f : Int) / 2 ^ j) 1 == 1) == f.testBit j) = true := by kernel_rfl
  have h2 := List.all_eq_true.1 (List.all_eq_true.1 h fl (List.mem_range.2 hf)) k (List.mem_range.2 hk)
  exact eq_of_beq h2
end Go.Proofs.YtemhiiignamkjaaDoor
