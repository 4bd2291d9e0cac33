/-
  Layer 22 (memory): more of one player; rolling back, plain.
-/
import Derived.Test.YtgieiehpnjhkoaaMemK1
namespace Go.Proofs.Ytgieiehpnjhkoaa
open Go.ChangeShapes Go.WideShapes Go.ChangeAt Go.RowKit Go.Shelf

set_option maxRecDepth 100000 in
/-- One operation that comes in as an argument. -/
theorem open_op {H : Type} {enc : TypeId × Value → H} {W : World} {v : Value} {d : DataW H} {ps : List MemPlace} {base : Nat} (hv : Value.okWide Try.prog W .any base 37 v)
    (h : DataW.Trod enc Try.prog W 0 (fun _ => true) true 37 v d ps) : ∃ op : PlainOp, OpOk W op v := by
  obtain ⟨cs, rfl, hs⟩ := okWide_struct Try.underlying37 hv
  obtain ⟨fuel, hf⟩ := h
  obtain ⟨op, pv, hcs, hfl, hP⟩ := op_cells hf
  have e : cs = #[.int .i64 op.kind, .int .i64 op.i, .int .u8 op.fill, .int .i64 op.size, pv] := by
    simp [Value.cells, opCells] at hcs
    exact Array.ext' hcs
  exact ⟨op, pv, by rw [e]; rfl, hfl, hP⟩

/-- Texts lie on. -/
def KT (w w' : World) : Prop := ∀ v I, Texts w v I → Texts w' v I
theorem KT.trans {a b c : World} (h : KT a b) (k : KT b c) : KT a c := fun v I ht => k v I (h v I ht)
theorem kt_below {w w' : World} (hB : Below w.heap.size w w') : KT w w' := fun _ _ ht => ht.below' hB

section
variable {W w w' : World} {p b g n k : Nat} {s : St}
theorem Uno.kt (h : Uno W w p b g s) (hg : w.grownBy w' (some g)) : KT w w' := fun v I ht => ht.kept hg (fun k t cs e hk => by
  cases e
  obtain ⟨cap, cur, _, hgb, _⟩ := h.mem.body
  have e2 : t = 68 := by
    have := hk.symm.trans hgb
    simp at this
    exact this.2
  rw [e2]; decide)
theorem kt_blk (h : ∀ t j cs, t ≠ 42 → t ≠ 68 → t ≠ 54 → Blk w j t cs → Blk w' j t cs) : KT w w' := fun v I ht =>
  ownsRow_of ht fun k cs _ hcs => ⟨cs, h _ k cs (by decide) (by decide) (by decide) hcs, rfl, fun _ _ => rfl⟩
theorem uno_image (h : Uno W w p b g s) (hs : Sound n k s) (hn : n ≤ 64) :
    Calls Try.prog 22 #[.pointer (some ⟨b, 0, none⟩)] w fun e w' => ∃ v, e = .returned v ∧ Hid (Texts w' v (s.M.map Sec.now)) ∧ Hid (Uno W w' p b g s) ∧ Hid (Below w.heap.size w w') := by
  refine (Image_any h.mem (by rw [hs.len]; omega)).mono ?_
  rintro e w' ⟨v, rfl, H⟩
  exact ⟨v, rfl, news_texts H, h.on H.2.2, H.2.2⟩
theorem uno_worn (h : Uno W w p b g s) (hs : Sound n k s) (hn : n ≤ 64) :
    Calls Try.prog 25 #[.pointer (some ⟨b, 0, none⟩)] w fun e w' => ∃ A c, e = .returned (.slice A (idxs Sec.worn s.M).length c) ∧
      Hid (∀ (i t : Nat), (idxs Sec.worn s.M)[i]? = some t → ∃ gb, A = some ⟨gb, 0, none⟩ ∧ gb < w'.heap.size ∧ w'.cell? ⟨gb, i, none⟩ = some (.int .i64 t)) ∧ Hid (Uno W w' p b g s) ∧ Hid (Below w.heap.size w w') := by
  refine (Worn_any h.mem (by rw [hs.len]; omega)).mono ?_
  rintro e w' ⟨v, rfl, H⟩
  obtain ⟨A, c, rfl, _, _, h1⟩ := (news_ints H).parts
  exact ⟨A, c, rfl, h1, h.on H.2.2, H.2.2⟩
theorem uno_dirty (h : Uno W w p b g s) (hs : Sound n k s) (hn : n ≤ 64) :
    Calls Try.prog 23 #[.pointer (some ⟨b, 0, none⟩)] w fun e w' => ∃ A c, e = .returned (.slice A (idxs Sec.dirty s.M).length c) ∧
      Hid (∀ (i t : Nat), (idxs Sec.dirty s.M)[i]? = some t → ∃ gb, A = some ⟨gb, 0, none⟩ ∧ gb < w'.heap.size ∧ w'.cell? ⟨gb, i, none⟩ = some (.int .i64 t)) ∧ Hid (Uno W w' p b g s) ∧ Hid (Below w.heap.size w w') := by
  refine (Dirty_any h.mem (by rw [hs.len]; omega)).mono ?_
  rintro e w' ⟨v, rfl, H⟩
  obtain ⟨A, c, rfl, _, _, h1⟩ := (news_ints H).parts
  exact ⟨A, c, rfl, h1, h.on H.2.2, H.2.2⟩
theorem uno_stale (h : Uno W w p b g s) {i : Int} (hi : isAt s.M i) :
    Calls Try.prog 26 #[.pointer (some ⟨b, 0, none⟩), .int .i64 i] w fun e w' => e = .returned (.int .i64 0) ∧ Hid (Uno W w' p b g { s with M := upd Sec.stale s.M i }) ∧ Hid (w.grownBy w' (some g)) := by
  refine (stale_any h.mem i).mono ?_
  rintro e w' ⟨rfl, hM, hg⟩
  rw [if_pos hi] at hM
  exact ⟨by unfold errOf; rw [if_pos hi], h.turn hM hg, hg⟩
theorem uno_read2 (h : Uno W w p b g s) {i : Int} {t : ByteArray} {er : Int} (ht : readT s.M i = t) (he : readE s.M i = er) :
    Calls Try.prog 18 #[.pointer (some ⟨b, 0, none⟩), .int .i64 i] w fun e w' => e = .returned (.tuple #[.string t, .int .i64 er]) ∧ Hid (Uno W w' p b g s) ∧ Hid (Below w.heap.size w w') := by
  refine (uno_read h ht he).mono ?_
  rintro e w' ⟨rfl, rfl⟩
  exact ⟨rfl, h, Below.refl _ _⟩
theorem uno_start2 {W1 : World} (hB : Below W.heap.size W W1) (h1 : 1 ≤ n) (h2 : n ≤ 64) :
    Calls Try.prog 11 #[.int .i64 n] W1 fun e w' => ∃ p r b g, e = .returned (.tuple #[.pointer (some ⟨p, 0, none⟩), .pointer (some ⟨r, 0, none⟩), .bool true]) ∧ Hid (Uno W w' p b g (startSt n)) ∧ Hid (Below W1.heap.size W1 w') := by
  refine (uno_start (W := W1) h1 h2).mono ?_
  rintro e w' ⟨p, r, b, g, rfl, v, a1, a2, a3, a4, a5⟩
  have := hB.size
  exact ⟨p, r, b, g, rfl, ⟨v, a1, hB.trans (a2.mono hB.size), fun k e => Nat.le_trans hB.size (a3 k e), by omega, by omega⟩, a2⟩
theorem Uno.put {q : Nat} {cs : Array Value} (h : Uno W w p b g s) (hq : Blk w q 37 cs) (hWq : W.heap.size ≤ q) (i : Nat) (u : Value) : Uno W (w.setCell ⟨q, i, none⟩ u) p b g s := by
  obtain ⟨v, h1, h2, h3, h4, h5⟩ := h
  obtain ⟨cap, cur, hbb, hgb, _⟩ := h1.mem.body
  have hg := grown_set w q i u
  have n1 := h1.blk.ne_ hq (by decide)
  have n2 := hbb.ne_ hq (by decide)
  have n3 := hgb.ne_ hq (by decide)
  refine ⟨v, ⟨h1.blk.grown hg (fun e => n1 (by cases e; rfl)), h1.mem.grown hg (fun e => n2 (by cases e; rfl)) (fun e => n3 (by cases e; rfl)), h1.imgs.kept hg (fun k t cs e hk => ?_)⟩, h2.setCell hWq u, h3, h4, h5⟩
  cases e
  have e2 : t = 37 := by
    have := hk.symm.trans hq
    simp at this
    exact this.2
  rw [e2]
  exact ⟨by decide, by decide⟩
theorem kt_put {q : Nat} {cs : Array Value} (hq : Blk w q 37 cs) (i : Nat) (u : Value) : KT w (w.setCell ⟨q, i, none⟩ u) := fun v I ht => ht.kept (grown_set w q i u) (fun k t cs e hk => by
  cases e
  have e2 : t = 37 := by
    have := hk.symm.trans hq
    simp at this
    exact this.2
  rw [e2]; decide)
theorem Uno.opblk {q : Nat} {cs : Array Value} (h : Uno W w p b g s) (hq : Blk w q 37 cs) (hg : w.grownBy w' (some g)) : Blk w' q 37 cs := by
  obtain ⟨cap, cur, _, hgb, _⟩ := h.mem.body
  have n3 := hgb.ne_ hq (by decide)
  exact hq.grown hg (fun e => n3 (by cases e; rfl))
end
theorem any_take_succ {D : List Nat} {k t : Nat} (f : Nat → Bool) (h : D[k]? = some t) : (D.take (k + 1)).any f = ((D.take k).any f || f t) := by
  rw [List.take_add_one, h]
  simp
/-- An operation, of kind 1. -/
theorem OpOk.write {W : World} {o : PlainOp} {x0 x1 x2 x3 x4 : Value} (h : OpOk W o (.agg #[x0, x1, x2, x3, x4])) : x1 = .int .i64 o.i ∧ x2 = .int .u8 o.fill ∧ x3 = .int .i64 o.size ∧ o.fill < 256 ∧ (∃ A n c, x4 = .slice A n c) ∧ OpOk W { o with kind := 1 } (.agg #[.int .i64 1, x1, x2, x3, x4]) := by
  obtain ⟨pv, e, h1, h2⟩ := h
  unfold opVal at e
  simp at e
  obtain ⟨e0, e1, e2, e3, e4⟩ := e
  have h2' := h2
  obtain ⟨A, c, hs, _⟩ := h2'
  refine ⟨e1, e2, e3, h1, ⟨A, _, c, by rw [e4, hs]⟩, pv, ?_, h1, h2⟩
  unfold opVal
  rw [e1, e2, e3, e4]

theorem flushed_id {s : Sec} (h : s.dirty = false) : s.flushed = s := by unfold Sec.flushed; rw [h]; rfl
theorem map_flushed {F : List Sec} (h : ∀ s ∈ F, s.dirty = false) : F.map Sec.flushed = F := by
  conv => rhs; rw [← List.map_id F]
  exact List.map_congr_left fun s hs => flushed_id (h s hs)
theorem set_same {α : Type} {l : List α} {j : Nat} {x : α} (h : l[j]? = some x) : l.set j x = l := by
  apply List.ext_getElem?
  intro i
  by_cases hi : j = i
  · subst hi; rw [List.getElem?_set_self (List.getElem?_eq_some_iff.1 h).1, h]
  · rw [List.getElem?_set_ne hi]
theorem rolls_plain {F : List Sec} (hc : ∀ s ∈ F, s.dirty = false) {j : Nat} {x : Sec} (t : ByteArray) (hx : F[j]? = some x) (hw : x.worn = false) :
    ((upd (fun s => s.write t) F j).map Sec.flushed)[j]? = some ⟨t, x.now, ⟨#[]⟩, false, x.worn⟩ ∧ (upd Sec.stale ((upd (fun s => s.write t) F j).map Sec.flushed) j).map Sec.now = F.map Sec.now := by
  have hj := (List.getElem?_eq_some_iff.1 hx).1
  have e1 : upd (fun s => s.write t) F j = F.set j { x with fresh := t, dirty := true } := by
    unfold upd
    rw [show ((j : Int)).toNat = j from rfl, List.getD, hx]
    show F.set j (x.write t) = _
    unfold Sec.write
    rw [if_neg (by rw [hw]; decide)]
  have e2 : (upd (fun s => s.write t) F j).map Sec.flushed = F.set j ⟨t, x.now, ⟨#[]⟩, false, x.worn⟩ := by
    rw [e1, List.map_set, map_flushed hc]
    rfl
  have e3 : ((upd (fun s => s.write t) F j).map Sec.flushed)[j]? = some ⟨t, x.now, ⟨#[]⟩, false, x.worn⟩ := by
    rw [e2, List.getElem?_set_self hj]
  refine ⟨e3, ?_⟩
  rw [e2] at e3 ⊢
  unfold upd
  rw [show ((j : Int)).toNat = j from rfl, List.getD, e3, List.set_set, List.map_set]
  exact set_same (by rw [List.getElem?_map, hx]; rfl)
end Go.Proofs.Ytgieiehpnjhkoaa
