/-
  Rows of bytes that the call owns: append, conversion to a text and back (layer 46's seat).
-/
import Derived.Test.YtldkfhimpkiigaaGreatDoorScrW7
import Derived.Laws.AppendOwn
import Derived.Laws.OwnMore
import Derived.Lib.AppendStr
import Derived.Lib.ConvBytes
import Derived.Lib.AtoiErrMem
import Derived.Laws.IdiomStrings
import Derived.Below
import Derived.OwnWalk
namespace Go.Proofs.YtldkfhimpkiigaaGreatDoor
open Go.RowKit Go.Shelf

theorem infoU8f : (Tryz.prog.info? 5).map (fun i => (i.zero, i.size, i.bytes)) = some (some (.int .u8 0), 1, 1) := by kernel_rfl
def byteV (x : UInt8) : Value := .int .u8 (x.toNat : Int)
def BytesAt (w : World) (bb bo : Nat) (b : List UInt8) : Prop := bb < w.heap.size ∧ ∀ i x, b[i]? = some x → w.cell? ⟨bb, bo + i, none⟩ = some (.int .u8 (x.toNat : Int))
def bl (x : ByteArray) : List UInt8 := x.data.toList
theorem grown_tr {a b c : World} {row : Option Nat} (h : a.grownBy b row) (k : b.grownBy c row) : a.grownBy c row :=
  ⟨k.os.trans h.os, k.tape.trans h.tape, k.output.trans h.output, Nat.le_trans h.size k.size, fun j hj hne => (k.block j (Nat.lt_of_lt_of_le hj h.size) hne).trans (h.block j hj hne)⟩
theorem grownB {B : Nat} {w w' : World} (h : Below B w w') (hB : w.heap.size ≤ B) (row : Option Nat) : w.grownBy w' row :=
  ⟨h.os, h.tape, h.output, h.size, fun j hj _ => h.block j (Nat.lt_of_lt_of_le hj hB)⟩
theorem byteV_one (l : List UInt8) : ∀ v ∈ l.map byteV, v.oneCell' = true := by
  intro v hv
  obtain ⟨x, _, rfl⟩ := List.mem_map.1 hv
  rfl
theorem bl_len (x : ByteArray) : (bl x).length = x.size := by
  unfold bl
  rw [Array.length_toList]
  rfl
/-- Bytes in a row of their own. -/
def BRow (w : World) (base : Nat) (v : Value) (l : List UInt8) : Prop := w.ownsRow base 5 1 v l.length (l.map byteV)
section
variable {w w' : World} {base : Nat} {v : Value} {l : List UInt8}
theorem brow_nil (w : World) (base : Nat) : BRow w base (.slice none 0 0) [] := World.ownsRow_nil w base _ 1
theorem BRow.slice (h : BRow w base v l) (hl : l ≠ []) : ∃ g c, v = .slice (some ⟨g, 0, none⟩) l.length c ∧ base ≤ g ∧ g < w.heap.size := by
  rcases h.2 with ⟨_, h0⟩ | ⟨g, cap, cur, hv, hb, hg, _⟩
  · exact absurd (List.eq_nil_of_length_eq_zero h0) hl
  · exact ⟨g, cap, hv, hb, (Array.getElem?_eq_some_iff.1 hg).1⟩
theorem BRow.any (h : BRow w base v l) : ∃ A c, v = .slice A l.length c := by
  rcases h.2 with ⟨hv, h0⟩ | ⟨g, cap, cur, hv, _⟩
  · exact ⟨none, 0, by rw [hv, h0]⟩
  · exact ⟨_, _, hv⟩
theorem BRow.more {base' : Nat} (h : BRow w base v l) (hle : base' ≤ base) : BRow w base' v l := by
  refine ⟨h.1, ?_⟩
  rcases h.2 with h2 | ⟨g, cap, cur, hv, hg, r⟩
  · exact .inl h2
  · exact .inr ⟨g, cap, cur, hv, Nat.le_trans hle hg, r⟩
theorem BRow.alloc (h : BRow w base v l) (o : Obj) : BRow (w.alloc o) base v l := World.ownsRow.alloc h o
theorem BRow.drewN (h : BRow w base v l) (n : Nat) : BRow (w.drewN n) base v l := h
theorem BRow.kept {row : Option Nat} (h : BRow w base v l) (hg : w.grownBy w' row) (hne : v.ownBlock = none ∨ v.ownBlock ≠ row) : BRow w' base v l := World.ownsRow.kept h hg hne
theorem BRow.below (h : BRow w base v l) (hB : Below w.heap.size w w') : BRow w' base v l :=
  h.kept (grownB hB (Nat.le_refl _) none) (by
    cases e : v.ownBlock with
    | none => exact .inl rfl
    | some k => exact .inr (by simp))
theorem BRow.cell {g n c : Nat} (h : BRow w base (.slice (some ⟨g, 0, none⟩) n c) l) (j : Nat) (x : UInt8) (hx : l[j]? = some x) : w.cell? ⟨g, j, none⟩ = some (byteV x) := by
  have := h.cells (g := g) rfl j (byteV x) (by rw [List.getElem?_map, hx]; rfl)
  rw [show (⟨g, j, none⟩ : Addr) = (⟨g, 0, none⟩ : Addr).add j by simp [Addr.add]]
  exact this
theorem BRow.bytesAt {g n c : Nat} (h : BRow w base (.slice (some ⟨g, 0, none⟩) n c) l) : BytesAt w g 0 l :=
  ⟨(h.lt g rfl).2, fun i x hx => by rw [Nat.zero_add]; exact h.cell i x hx⟩
/-- A literal's row. -/
theorem brow_lit (w : World) (l : List UInt8) (hb : base ≤ w.heap.size) (hm : l.length ≤ maxLen) : BRow (w.alloc (.cells (l.map byteV).toArray 5)) base (.slice (some ⟨w.heap.size, 0, none⟩) l.length l.length) l := by
  refine ⟨by simp, .inr ⟨w.heap.size, l.length, _, rfl, hb, heap_alloc_new w _, Nat.le_refl _, hm, by simp, ?_⟩⟩
  rw [Nat.mul_one, List.take_of_length_le (by simp)]
/-- Bytes as a text. -/
theorem conv_row (h : BRow w base v l) : (convert 70 9 v).run Tryz.prog w = .ok (.string ⟨l.toArray⟩) w := by
  rcases h.2 with ⟨hv, h0⟩ | ⟨g, cap, cur, hv, hb, hg, _⟩
  · have e := List.eq_nil_of_length_eq_zero h0
    subst e hv
    have hc := run_convert_bytes_string (P := Tryz.prog) w 70 9 5 none 0 0 Tryz.underlying70 Tryz.underlying5 Tryz.underlying9
    rw [hc]
    rfl
  · subst hv
    exact run_convert_bytes_back (P := Tryz.prog) w 70 9 5 ⟨g, 0, none⟩ cap l Tryz.underlying70 Tryz.underlying5 Tryz.underlying9 (fun j hj => by
      exact h.cells (g := g) rfl j (byteV l[j]) (by rw [List.getElem?_map, List.getElem?_eq_getElem hj]; rfl))
end
theorem wpList_append_run {P : Program} {w : World} {ops : Array Oper} {rest : List Oper} {o : Oper} {a : Act} {Q : Exit → Act → World → Prop} (hgd : o.guard = none) (d s : Operand) (dT sT : TypeId)
    (ho : o.op = .call { callee := .builtin .append, args := #[d, s], argTypes := #[dT, sT] }) (x y : Value) (hd : a.eval d = x) (hs : a.eval s = y) {v' : Value} {w' : World}
    (hrun : (Builtin.append_ #[dT, sT] o.type #[x, y]).run P w = .ok v' w') (h : wpList P ops Q rest (a.put o.dst v') w') : wpList P ops Q (o :: rest) a w := by
  refine wpList_plain hgd fun K hK => ?_
  unfold Oper.wp
  simp [execOp, ho, resolve, invoke, builtin, hd, hs, hrun, Result.andThen]
  exact hK _ _ h
/-- What an append leaves. -/
structure Pushed (w w' : World) (base : Nat) (v v' : Value) (l : List UInt8) : Prop where
  row : BRow w' base v' l
  grown : w.grownBy w' v.ownBlock
  bel : ∀ B w0, B ≤ base → base ≤ w.heap.size → Below B w0 w → Below B w0 w'
section
variable {w : World} {ops : Array Oper} {rest : List Oper} {o : Oper} {a : Act} {Q : Exit → Act → World → Prop}
theorem pushed_of {w' : World} {base : Nat} {v v' : Value} {l l' : List UInt8} (hrow : BRow w base v l) (h1 : BRow w' base v' l') (hg : w.grownBy w' v.ownBlock) : Pushed w w' base v v' l' :=
  ⟨h1, hg, fun _ _ hB hb h => h.grown hg (Nat.le_trans hB hb) (fun k e => Nat.le_trans hB (hrow.lt k e).1)⟩
/-- append of other bytes. -/
theorem wp_cat (hgd : o.guard = none) (d s : Operand) (ho : o.op = .call { callee := .builtin .append, args := #[d, s], argTypes := #[70, 70] }) (base : Nat) (v : Value) (l : List UInt8) (hd : a.eval d = v) (hrow : BRow w base v l)
    (g off c : Nat) (m : List UInt8) (hs : a.eval s = .slice (some ⟨g, off, none⟩) m.length c) (hm : BytesAt w g off m) (hlen : l.length + m.length < 100000000000) (hb : base ≤ w.heap.size)
    (h : ∀ v' w', Pushed w w' base v v' (l ++ m) → wpList Tryz.prog ops Q rest (a.put o.dst v') w') : wpList Tryz.prog ops Q (o :: rest) a w := by
  obtain ⟨i0, hi, hz0, hz1, hz2⟩ := info_parts infoU8f
  refine wpList_append_own w hgd d s 70 ho base 5 i0 (.int .u8 0) 1 1 Tryz.underlying70 hi hz0 hz1 hz2 rfl (by decide) v l.length (l.map byteV) hd hrow ⟨g, off, none⟩ m.length c (m.map byteV) hs (by simp) ?_ (byteV_one _) (by unfold maxLen; omega) (by omega) hb ?_
  · intro j u hj
    rw [List.getElem?_map, Option.map_eq_some_iff] at hj
    obtain ⟨x, hx, rfl⟩ := hj
    rw [show (⟨g, off, none⟩ : Addr).add j = ⟨g, off + j, none⟩ by simp [Addr.add]]
    exact hm.2 j x hx
  · intro v' w' h1 h2 _
    refine h v' w' (pushed_of hrow ?_ h2)
    unfold BRow
    rw [List.length_append, List.map_append]
    exact h1
/-- append of one byte, whose row has just been made. -/
theorem wp_push {w0 : World} (hgd : o.guard = none) (d s : Operand) (ho : o.op = .call { callee := .builtin .append, args := #[d, s], argTypes := #[70, 70] }) (base : Nat) (v : Value) (l : List UInt8) (hd : a.eval d = v) (hrow : BRow w0 base v l)
    (c : Nat) (x : UInt8) {val : Value} (hval : val = byteV x) (hs : a.eval s = .slice (some ⟨w0.heap.size, 0, none⟩) 1 c) (hlen : l.length < 99999999999) (hb : base ≤ w0.heap.size)
    (h : ∀ v' w', Pushed w0 w' base v v' (l ++ [x]) → wpList Tryz.prog ops Q rest (a.put o.dst v') w') : wpList Tryz.prog ops Q (o :: rest) a (w0.alloc (.cells #[val] 5)) := by
  subst hval
  refine wp_cat hgd d s ho base v l hd (hrow.alloc _) w0.heap.size 0 c [x] hs (brow_lit (base := w0.heap.size) w0 [x] (Nat.le_refl _) (by simp [maxLen])).bytesAt ?_ ?_ ?_
  · rw [show [x].length = 1 from rfl]; omega
  · rw [World.size_alloc]; omega
  · intro v' w' hP
    refine h v' w' ⟨hP.row, ?_, fun B w1 hB hb2 hBel => hP.bel B w1 hB (by rw [World.size_alloc]; omega) (hBel.alloc (Nat.le_trans hB hb2) _)⟩
    exact grown_tr (grownB ((Below.refl _ w0).alloc (Nat.le_refl _) _) (Nat.le_refl _) v.ownBlock) hP.grown
/-- append of some bytes, whose row has just been made. -/
theorem wp_lit {w0 : World} (hgd : o.guard = none) (d s : Operand) (ho : o.op = .call { callee := .builtin .append, args := #[d, s], argTypes := #[70, 70] }) (base : Nat) (v : Value) (l : List UInt8) (hd : a.eval d = v) (hrow : BRow w0 base v l)
    (n c : Nat) (xs : List UInt8) {vals : Array Value} (hval : vals = (xs.map byteV).toArray) (hn : xs.length = n) (hs : a.eval s = .slice (some ⟨w0.heap.size, 0, none⟩) n c) (hlen : l.length + n < 99999999999) (hb : base ≤ w0.heap.size)
    (h : ∀ v' w', Pushed w0 w' base v v' (l ++ xs) → wpList Tryz.prog ops Q rest (a.put o.dst v') w') : wpList Tryz.prog ops Q (o :: rest) a (w0.alloc (.cells vals 5)) := by
  subst hval hn
  refine wp_cat hgd d s ho base v l hd (hrow.alloc _) w0.heap.size 0 c xs hs (brow_lit (base := w0.heap.size) w0 xs (Nat.le_refl _) (by unfold maxLen; omega)).bytesAt ?_ ?_ ?_
  · omega
  · rw [World.size_alloc]; omega
  · intro v' w' hP
    refine h v' w' ⟨hP.row, ?_, fun B w1 hB hb2 hBel => hP.bel B w1 hB (by rw [World.size_alloc]; omega) (hBel.alloc (Nat.le_trans hB hb2) _)⟩
    exact grown_tr (grownB ((Below.refl _ w0).alloc (Nat.le_refl _) _) (Nat.le_refl _) v.ownBlock) hP.grown
/-- append of a text. -/
theorem wp_cat_text (hgd : o.guard = none) (d s : Operand) (ho : o.op = .call { callee := .builtin .append, args := #[d, s], argTypes := #[70, 9] }) (base : Nat) (v : Value) (l : List UInt8) (hd : a.eval d = v) (hrow : BRow w base v l)
    (x : ByteArray) (hs : a.eval s = .string x) (hlen : l.length + x.size < 100000000000) (hb : base ≤ w.heap.size)
    (h : ∀ v' w', Pushed w w' base v v' (l ++ bl x) → wpList Tryz.prog ops Q rest (a.put o.dst v') w') : wpList Tryz.prog ops Q (o :: rest) a w := by
  obtain ⟨i0, hi, hz0, hz1, hz2⟩ := info_parts infoU8f
  obtain ⟨v', w', hr, h1, h2, _⟩ := Lib.run_append_own_string (P := Tryz.prog) w base 70 9 o.type 5 i0 Tryz.underlying70 Tryz.underlying9 hi hz0 hz1 hz2 v _ _ hrow x (by unfold maxLen; omega) (by omega) hb
  refine wpList_append_run hgd d s _ _ ho _ _ hd hs hr (h v' w' (pushed_of hrow ?_ h2))
  unfold BRow
  rw [List.length_append, List.map_append, bl_len]
  exact h1
end
section
variable {w : World} {o : Oper} {a : Act} {K : Act → World → Prop} {Q : Exit → Act → World → Prop}
theorem wp_cat_op (d s : Operand) (ho : o.op = .call { callee := .builtin .append, args := #[d, s], argTypes := #[70, 70] }) (base : Nat) (v : Value) (l : List UInt8) (hd : a.eval d = v) (hrow : BRow w base v l)
    (g off c : Nat) (m : List UInt8) (hs : a.eval s = .slice (some ⟨g, off, none⟩) m.length c) (hm : BytesAt w g off m) (hlen : l.length + m.length < 100000000000) (hb : base ≤ w.heap.size)
    (h : ∀ v' w', Pushed w w' base v v' (l ++ m) → K (a.put o.dst v') w') : o.wp Tryz.prog a w K Q := by
  obtain ⟨i0, hi, hz0, hz1, hz2⟩ := info_parts infoU8f
  refine wp_append_own w d s 70 ho base 5 i0 (.int .u8 0) 1 1 Tryz.underlying70 hi hz0 hz1 hz2 rfl (by decide) v l.length (l.map byteV) hd hrow ⟨g, off, none⟩ m.length c (m.map byteV) hs (by simp) ?_ (byteV_one _) (by unfold maxLen; omega) (by omega) hb ?_
  · intro j u hj
    rw [List.getElem?_map, Option.map_eq_some_iff] at hj
    obtain ⟨x, hx, rfl⟩ := hj
    rw [show (⟨g, off, none⟩ : Addr).add j = ⟨g, off + j, none⟩ by simp [Addr.add]]
    exact hm.2 j x hx
  · intro v' w' h1 h2 _
    refine h v' w' (pushed_of hrow ?_ h2)
    unfold BRow
    rw [List.length_append, List.map_append]
    exact h1
theorem wp_push_op {w0 : World} (d s : Operand) (ho : o.op = .call { callee := .builtin .append, args := #[d, s], argTypes := #[70, 70] }) (base : Nat) (v : Value) (l : List UInt8) (hd : a.eval d = v) (hrow : BRow w0 base v l)
    (c : Nat) (x : UInt8) {val : Value} (hval : val = byteV x) (hs : a.eval s = .slice (some ⟨w0.heap.size, 0, none⟩) 1 c) (hlen : l.length < 99999999999) (hb : base ≤ w0.heap.size)
    (h : ∀ v' w', Pushed w0 w' base v v' (l ++ [x]) → K (a.put o.dst v') w') : o.wp Tryz.prog a (w0.alloc (.cells #[val] 5)) K Q := by
  subst hval
  refine wp_cat_op d s ho base v l hd (hrow.alloc _) w0.heap.size 0 c [x] hs (brow_lit (base := w0.heap.size) w0 [x] (Nat.le_refl _) (by simp [maxLen])).bytesAt ?_ ?_ ?_
  · rw [show [x].length = 1 from rfl]; omega
  · rw [World.size_alloc]; omega
  · intro v' w' hP
    refine h v' w' ⟨hP.row, ?_, fun B w1 hB hb2 hBel => hP.bel B w1 hB (by rw [World.size_alloc]; omega) (hBel.alloc (Nat.le_trans hB hb2) _)⟩
    exact grown_tr (grownB ((Below.refl _ w0).alloc (Nat.le_refl _) _) (Nat.le_refl _) v.ownBlock) hP.grown
end
theorem conv_text (w : World) (x : ByteArray) : ∃ c w', (convert 9 70 (.string x)).run Tryz.prog w = .ok (.slice (some ⟨w.heap.size, 0, none⟩) x.size c) w' ∧ BytesAt w' w.heap.size 0 (bl x) ∧ Below w.heap.size w w' ∧ w'.heap.size = w.heap.size + 1 := by
  refine ⟨_, _, Lib.run_convert_string_bytes (P := Tryz.prog) w 9 70 5 x Tryz.underlying9 Tryz.underlying70 Tryz.underlying5, ⟨by rw [Lib.bytesWorld_size]; omega, fun i y hy => ?_⟩, Lib.bytesWorld_below _ _ _, Lib.bytesWorld_size _ _ _⟩
  have hi : i < x.size := by
    rw [← bl_len]
    exact (List.getElem?_eq_some_iff.1 hy).1
  rw [Nat.zero_add, Lib.bytesWorld_cell w 5 x i hi, List.getD_eq_getElem?_getD]
  unfold bl at hy
  rw [hy]
  rfl
end Go.Proofs.YtldkfhimpkiigaaGreatDoor
