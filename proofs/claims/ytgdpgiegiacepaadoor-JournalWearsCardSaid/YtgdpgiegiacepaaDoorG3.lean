/-
  Layer 22 (memory): indices, Dirty, Worn.
  Layer 22 (memory): Image.
  Layer 22 (memory): Load and what it calls.
  Layer 22 (memory): Clone.
  The builtin copy at elements of any number of cells, the target lying in a row that is known whole. (After Derived/Laws/CopyRow.lean and CopyOwn.lean, where an element is one cell.)
-/
import Derived.Test.YtgdpgiegiacepaaDoorMemW5
import Derived.RangeFuncBox
import Derived.OwnWalkIn
import Derived.Laws.OwnMore
import Derived.StillTailTactics
import Derived.Test.YtgdpgiegiacepaaDoorProg
import Derived.Laws.CopyOwn
namespace Go.Proofs.YtgdpgiegiacepaaDoor
open Go.RowKit Go.Shelf
attribute [local go_sem] Oper.semAt_some

/-- Numbers as cells. -/
def intCells (l : List Nat) : List Value := l.map fun i : Nat => Value.int .i64 i
theorem intCells_snoc (l : List Nat) (x : Nat) : intCells (l ++ [x]) = intCells l ++ [.int .i64 x] := by simp [intCells]

theorem upto_len (P0 : Nat → Bool) : ∀ k, (upto P0 k).length ≤ k
  | 0 => Nat.le_refl _
  | k + 1 => by
    have := upto_len P0 k
    cases h : P0 k
    · rw [upto_no P0 k h]; omega
    · rw [upto_yes P0 k h]; simp; omega

theorem infoInt : (Tryd.prog.info? 3).map (fun i => (i.zero, i.size, i.bytes)) = some (some (.int .i64 0), 1, 8) := by kernel_rfl

/-- A fresh list of numbers. -/
def NewInts (w w' : World) (v : Value) (l : List Nat) : Prop := w'.ownsRow w.heap.size 3 1 v l.length (intCells l) ∧ (v = .slice none 0 0 ↔ l = []) ∧ Below w.heap.size w w'

/-- A box lies on behind an append into another one. -/
theorem boxed_past {W w1 : World} {B B' : Nat} {t e : TypeId} {u v : Value} {n₀ size k : Nat} {xs : List Value} {tmp : Obj} (h : Boxed W B' t u) (hte : t ≠ e) (hrow : W.ownsRow n₀ e size v k xs)
    (hgrow : (W.alloc tmp).grownBy w1 v.ownBlock) (hne : B' ≠ B) (v' : Value) : Boxed (w1.setCell ⟨B, 0, none⟩ v') B' t u :=
  ((h.alloc tmp).kept hgrow (h.not_row hte hrow)).kept (grownBy_setCell' w1 B v') (fun e => hne (by cases e; rfl))

section
variable {w : World} {b g : Nat} {M : List Sec}

/-- What the loop of indices keeps. -/
def Gather (w : World) (b g : Nat) (M : List Sec) (fi : Nat) (pre : List Nat) (W : World) : Prop :=
  (∃ v, Boxed W w.heap.size 28 v ∧ W.ownsRow w.heap.size 3 1 v pre.length (intCells pre) ∧ (v = .slice none 0 0 ↔ pre = [])) ∧
    Boxed W (w.heap.size + 1) 66 (.pointer (some ⟨b, 0, none⟩)) ∧ Boxed W (w.heap.size + 2) 105 (.func (.func fi) #[] #[]) ∧ PMem W b g M ∧ Below w.heap.size w W

theorem gather_own (fi : Nat) (hb : b < w.heap.size) (hg : g < w.heap.size) : OwnFrom (w.heap.size + 3) (Gather w b g M fi) := by
  rintro pre W W' row ⟨⟨v, h1, h2, h3⟩, h4, h5, h6, h7⟩ hgr hr
  refine ⟨⟨v, h1.kept hgr ?_, h2.kept hgr ?_, h3⟩, h4.kept hgr ?_, h5.kept hgr ?_, h6.grown hgr ?_ ?_, h7.grown hgr h7.size ?_⟩
  · intro e; have := (hr _ e.symm).1; omega
  · rcases h2.2 with ⟨rfl, _⟩ | ⟨g, cap, cur, rfl, _, hgb, _⟩
    · exact .inl rfl
    · refine .inr fun e' => ?_
      obtain ⟨o, ho, hc⟩ := (hr g (by simpa [Value.ownBlock] using e'.symm)).2
      rw [hgb] at ho; cases ho; cases hc
  · intro e; have := (hr _ e.symm).1; omega
  · intro e; have := (hr _ e.symm).1; omega
  · intro e; have := (hr _ e.symm).1; omega
  · intro e; have := (hr _ e.symm).1; omega
  · intro j e; have := (hr j e).1; omega

theorem gather_sees (fi : Nat) (p : Sec → Bool) (pre : List Nat) (W : World) (h : Gather w b g M fi pre W) : Sees b g (w.heap.size + 1) (w.heap.size + 2) fi M.length p (fun i => ((M[i]?).map p).getD false) pre W :=
  ⟨M, h.2.2.2.1, rfl, h.2.1.cell, h.2.2.1.cell, fun i s _ hs => by simp [hs]⟩

end
end Go.Proofs.YtgdpgiegiacepaaDoor
namespace Go.Proofs.YtgdpgiegiacepaaDoor
open Go.RowKit Go.Shelf
attribute [local go_sem] Oper.semAt_some

/-- Texts as cells. -/
def strCells (l : List ByteArray) : List Value := l.map Value.string
theorem strCells_snoc (l : List ByteArray) (x : ByteArray) : strCells (l ++ [x]) = strCells l ++ [.string x] := by simp [strCells]
theorem strCells_len (l : List ByteArray) : (strCells l).length = l.length := by simp [strCells]

theorem infoString : (Tryd.prog.info? 9).map (fun i => (i.zero, i.size, i.bytes)) = some (some (.string ⟨#[]⟩), 1, 16) := by kernel_rfl

/-- A fresh list of texts. -/
def NewTexts (w w' : World) (v : Value) (l : List ByteArray) : Prop := w'.ownsRow w.heap.size 9 1 v l.length (strCells l) ∧ (v = .slice none 0 0 ↔ l = []) ∧ Below w.heap.size w w'

section
variable {w : World} {b g : Nat} {M : List Sec}

end
end Go.Proofs.YtgdpgiegiacepaaDoor
namespace Go.Proofs.YtgdpgiegiacepaaDoor
open Go.RowKit Go.Shelf
attribute [local go_sem] Oper.semAt_some

/-- A slice of texts that reads as a list. -/
def Texts (w : World) (v : Value) (I : List ByteArray) : Prop := w.ownsRow 0 9 1 v I.length (strCells I)

theorem Texts.parts {w : World} {v : Value} {I : List ByteArray} (h : Texts w v I) : ∃ A c, v = .slice A I.length c ∧ I.length ≤ c ∧ c ≤ maxLen ∧ ∀ i t, I[i]? = some t → ∃ gb cs, A = some ⟨gb, 0, none⟩ ∧ Blk w gb 9 cs ∧ w.cell? ⟨gb, i, none⟩ = some (.string t) := by
  have h' := h
  rcases h.2 with ⟨rfl, h0⟩ | ⟨gb, cap, cur, rfl, _, hb, h1, h2, _, _⟩
  · exact ⟨none, 0, by rw [h0], by omega, by unfold maxLen; omega, fun i t hi => by rw [List.eq_nil_of_length_eq_zero h0] at hi; simp at hi⟩
  · refine ⟨_, cap, rfl, h1, h2, fun i t hi => ⟨gb, cur, rfl, hb, ?_⟩⟩
    rw [h'.cellAt i (by have := (List.getElem?_eq_some_iff.1 hi).1; omega)]
    simp [strCells, hi]

/-- Some text has not 64 bytes. -/
def wrongs (I : List ByteArray) : Bool := I.any fun t => (t.size : Int) != 64

/-- What Load makes of the sectors. -/
def loadM (I : List ByteArray) (M : List Sec) : List Sec := List.zipWith (fun t s => (⟨t, t, ⟨#[]⟩, false, s.worn⟩ : Sec)) I M
/-- The sectors behind k rounds of Load. -/
def loadTo (I : List ByteArray) (M : List Sec) (k : Nat) : List Sec := loadM (I.take k) (M.take k) ++ M.drop k
theorem loadTo_zero (I : List ByteArray) (M : List Sec) : loadTo I M 0 = M := by simp [loadTo, loadM]
theorem loadTo_end (I : List ByteArray) (M : List Sec) (h : I.length = M.length) : loadTo I M M.length = loadM I M := by
  unfold loadTo
  rw [List.take_of_length_le (by omega), List.take_length, List.drop_length, List.append_nil]
theorem loadM_len (I : List ByteArray) (M : List Sec) (h : I.length = M.length) : (loadM I M).length = M.length := by simp [loadM, h]
theorem loadTo_len (I : List ByteArray) (M : List Sec) (k : Nat) (h : I.length = M.length) (hk : k ≤ M.length) : (loadTo I M k).length = M.length := by
  simp [loadTo, loadM]; omega
theorem loadTo_at (I : List ByteArray) (M : List Sec) (k : Nat) (h : I.length = M.length) (hk : k < M.length) : (loadTo I M k)[k]? = M[k]? := by
  unfold loadTo
  rw [List.getElem?_append_right (by simp [loadM]; omega)]
  simp [loadM]
  congr 1
  omega
theorem loadTo_succ (I : List ByteArray) (M : List Sec) (k : Nat) (t : ByteArray) (s : Sec) (h : I.length = M.length) (ht : I[k]? = some t) (hs : M[k]? = some s) :
    loadTo I M (k + 1) = (loadTo I M k).set k ⟨t, t, ⟨#[]⟩, false, s.worn⟩ := by
  have hk := (List.getElem?_eq_some_iff.1 hs).1
  have e1 : (loadM (I.take k) (M.take k)).length = k := by simp [loadM]; omega
  unfold loadTo
  rw [List.set_append_right _ _ (by omega), e1, Nat.sub_self, List.take_add_one, List.take_add_one, ht, hs]
  have e2 : M.drop k = s :: M.drop (k + 1) := by
    rw [List.drop_eq_getElem_cons hk]; congr 1
    rw [List.getElem?_eq_getElem hk] at hs; exact Option.some.inj hs
  rw [e2]
  unfold loadM
  rw [Option.toList_some, Option.toList_some, List.zipWith_append (by simp; omega)]
  simp

/-- What Load answers. -/
def loadErr (I : List ByteArray) (M : List Sec) : Bool := (I.length : Int) != M.length || wrongs I

/-- All cells of a sector are written. -/
theorem store5 {tM tS : TypeId} {w : World} {b g : Nat} {M : List Sec} (h : IsMem tM tS w b g M) {i : Nat} {s : Sec} (hs : M[i]? = some s) (s' : Sec) :
    IsMem tM tS (((((w.setCell ⟨g, i * 5, none⟩ (.string s'.now)).setCell ⟨g, i * 5 + 1, none⟩ (.string s'.before)).setCell ⟨g, i * 5 + 2, none⟩ (.string s'.fresh)).setCell ⟨g, i * 5 + 3, none⟩ (.bool s'.dirty)).setCell ⟨g, i * 5 + 4, none⟩ (.bool s'.worn)) b g (M.set i s') := by
  obtain ⟨now, before, fresh, dirty, worn⟩ := s
  obtain ⟨now', before', fresh', dirty', worn'⟩ := s'
  have hi := (List.getElem?_eq_some_iff.1 hs).1
  have g1 := h.store (i := i) (j := 0) (s' := ⟨now', before, fresh, dirty, worn⟩) (v := .string now') hs (by omega) rfl
  have g2 := g1.store (i := i) (j := 1) (s := ⟨now', before, fresh, dirty, worn⟩) (s' := ⟨now', before', fresh, dirty, worn⟩) (v := .string before') (List.getElem?_set_self hi) (by omega) rfl
  have g3 := g2.store (i := i) (j := 2) (s := ⟨now', before', fresh, dirty, worn⟩) (s' := ⟨now', before', fresh', dirty, worn⟩) (v := .string fresh') (List.getElem?_set_self (by simpa using hi)) (by omega) rfl
  have g4 := g3.store (i := i) (j := 3) (s := ⟨now', before', fresh', dirty, worn⟩) (s' := ⟨now', before', fresh', dirty', worn⟩) (v := .bool dirty') (List.getElem?_set_self (by simpa using hi)) (by omega) rfl
  have g5 := g4.store (i := i) (j := 4) (s := ⟨now', before', fresh', dirty', worn⟩) (s' := ⟨now', before', fresh', dirty', worn'⟩) (v := .bool worn') (List.getElem?_set_self (by simpa using hi)) (by omega) rfl
  simpa [List.set_set] using g5
theorem grown_five {w w2 : World} {g : Nat} (h : w.grownBy w2 (some g)) (i1 i2 i3 i4 i5 : Nat) (v1 v2 v3 v4 v5 : Value) :
    w.grownBy (((((w2.setCell ⟨g, i1, none⟩ v1).setCell ⟨g, i2, none⟩ v2).setCell ⟨g, i3, none⟩ v3).setCell ⟨g, i4, none⟩ v4).setCell ⟨g, i5, none⟩ v5) (some g) :=
  grown_trans (grown_trans (grown_trans (grown_trans (grown_trans h (grown_set _ _ _ _)) (grown_set _ _ _ _)) (grown_set _ _ _ _)) (grown_set _ _ _ _)) (grown_set _ _ _ _)

section
variable {w : World} {b g : Nat} {M : List Sec}

end
end Go.Proofs.YtgdpgiegiacepaaDoor
namespace Go.Proofs.YtgdpgiegiacepaaDoor
open Go.RowKit Go.Shelf
attribute [local go_sem] Oper.semAt_some

theorem infoSec : (Tryd.prog.info? 101).map (fun i => (i.zero, i.size, i.bytes)) = some (some (.agg #[.string ⟨#[]⟩, .string ⟨#[]⟩, .string ⟨#[]⟩, .bool false, .bool false]), 5, 56) := by kernel_rfl

section
variable {tM tS : TypeId} {w w' : World} {b g : Nat} {M : List Sec}
theorem IsMem.row (h : IsMem tM tS w b g M) : ∃ cap, w.cell? ⟨b, 0, none⟩ = some (.slice (some ⟨g, 0, none⟩) M.length cap) ∧ cap ≤ maxLen ∧ M.length ≤ cap ∧ w.ownsRow 0 tS 5 (.slice (some ⟨g, 0, none⟩) M.length cap) M.length (memCells M) := by
  obtain ⟨cap, cur, h1, h2, h3, h4, h5, h6⟩ := h.body
  exact ⟨cap, by rw [h1.cell]; rfl, h4, h3, memCells_len M, .inr ⟨g, cap, cur, rfl, Nat.zero_le _, h2, h3, h4, h5, h6⟩⟩
/-- A struct over a fresh row of sectors. -/
theorem isMem_of_row {base : Nat} {v : Value} (hp : 0 < M.length) (hv : w.ownsRow base tS 5 v M.length (memCells M)) (hb : Blk w b tM #[v]) (ht : tM ≠ tS) : ∃ g, base ≤ g ∧ IsMem tM tS w b g M := by
  rcases hv.2 with ⟨_, h0⟩ | ⟨g, cap, cur, rfl, h1, h2, h3, h4, h5, h6⟩
  · omega
  · exact ⟨g, h1, hb.ne_ h2 ht, hp, cap, cur, hb, h2, h3, h4, h5, h6⟩
end

section
variable {w : World} {b g : Nat} {M : List Sec}
theorem secCells_one (s : Sec) : ∀ u ∈ secCells s, u.oneCell' = true := by
  intro u hu
  simp [secCells] at hu
  rcases hu with rfl | rfl | rfl | rfl | rfl <;> rfl
theorem memCells_one (M : List Sec) : ∀ u ∈ memCells M, u.oneCell' = true := by
  intro u hu
  simp only [memCells, List.mem_flatMap] at hu
  obtain ⟨s, _, hs⟩ := hu
  exact secCells_one s u hs

end
end Go.Proofs.YtgdpgiegiacepaaDoor
namespace Go.Proofs.YtgdpgiegiacepaaDoor
open Go.RowKit

theorem run_copy_rowN {P : Program} (w : World) (dT sT ty elem : TypeId) (size g o dLen dCap : Nat) (a : Addr) (sLen sCap : Nat) (cur : Array Value) (t : TypeId) (cs : List Value)
    (hu : P.underlying dT = some (.slice elem)) (hs : (P.info? elem).map (·.size) = some size)
    (hg : w.heap[g]? = some (.cells cur t (0, 0))) (hn : cs.length = Nat.min sLen dLen * size)
    (hsrc : ∀ j v, cs[j]? = some v → w.cell? (a.add j) = some v) (hfit : o + cs.length ≤ cur.size) (h1 : ∀ v ∈ cs, v.oneCell' = true) :
    (Builtin.copy_ #[dT, sT] ty #[.slice (some ⟨g, o, none⟩) dLen dCap, .slice (some a) sLen sCap]).run P w =
      .ok (goInt (Nat.min sLen dLen)) (w.setRow g (cur.toList.take o ++ cs ++ cur.toList.drop (o + cs.length)).toArray) := by
  have hl := run_loadCells_list (P := P) w a cs hsrc
  have hst := run_storeCells_at P g o t cs 0 cur w hg (by simpa using hfit) h1
  cases hq : P.info? elem with
  | none => simp [hq] at hs
  | some i =>
    have hi : i.size = size := by simpa [hq] using hs
    simp [Builtin.copy_, run_underlying hu, Builtin.lenOf, Builtin.firstCells, sizeOf, typeInfo, hq, hi, ← hn, hl, hst]

theorem wpList_copy_rowN {P : Program} {w : World} {ops : Array Oper} {rest : List Oper} {o : Oper} {a : Act} {Q : Exit → Act → World → Prop} (hgd : o.guard = none) (d s : Operand) (dT sT : TypeId)
    (ho : o.op = .call { callee := .builtin .copy, args := #[d, s], argTypes := #[dT, sT] }) (elem : TypeId) (size : Nat) (hu : P.underlying dT = some (.slice elem)) (hsz : (P.info? elem).map (·.size) = some size)
    (g off dLen dCap : Nat) (ad : Addr) (sLen sCap : Nat) (hd : a.eval d = .slice (some ⟨g, off, none⟩) dLen dCap) (hs : a.eval s = .slice (some ad) sLen sCap)
    (cur : Array Value) (t : TypeId) (hg : w.heap[g]? = some (.cells cur t (0, 0))) (cs : List Value) (hn : cs.length = Nat.min sLen dLen * size)
    (hsrc : ∀ j v, cs[j]? = some v → w.cell? (ad.add j) = some v) (hfit : off + cs.length ≤ cur.size) (h1 : ∀ v ∈ cs, v.oneCell' = true)
    (h : wpList P ops Q rest (a.put o.dst (goInt (Nat.min sLen dLen))) (w.setRow g (cur.toList.take off ++ cs ++ cur.toList.drop (off + cs.length)).toArray)) : wpList P ops Q (o :: rest) a w := by
  refine wpList_plain hgd fun K hK => ?_
  have hrun := run_copy_rowN (P := P) w dT sT o.type elem size g off dLen dCap ad sLen sCap cur t cs hu hsz hg hn hsrc hfit h1
  unfold Oper.wp
  simp [execOp, ho, resolve, invoke, builtin, hd, hs, hrun, Result.andThen]
  exact hK _ _ (by simpa using h)
end Go.Proofs.YtgdpgiegiacepaaDoor
