/-
  Layer 22 (memory): a map of truths beside a player.
-/
import Derived.Test.YtgieiehpnjhkoaaMemK2
import Derived.Test.YtgieiehpnjhkoaaMemQ2
namespace Go.Proofs.Ytgieiehpnjhkoaa
open Go.RowKit Go.Shelf Go.Maps

section
variable {W w w' : World} {p b g n k mb N : Nat} {s : St} {f : Int → Bool}
theorem BoolMap.cell_ne (h : BoolMap w mb N f) {a : Addr} {v : Value} (hc : w.cell? a = some v) : some a.block ≠ some mb := by
  obtain ⟨D, ⟨es, clock, hb, _⟩, _⟩ := h
  intro e
  cases e
  unfold World.cell? at hc
  rw [hb] at hc
  simp at hc
theorem BoolMap.grown_cell {w1 : World} (h : BoolMap w mb N f) (hg : w.grownBy w1 (some mb)) {a : Addr} {v : Value} (hc : w.cell? a = some v) : w1.cell? a = some v := hg.cell hc (h.cell_ne hc)
theorem Uno.mapped (h : Uno W w p b g s) (hb : BoolMap w mb N f) (hg : w.grownBy w' (some mb)) (hW : W.heap.size ≤ mb) : Uno W w' p b g s := by
  obtain ⟨v, h1, h2, h3, h4, h5⟩ := h
  obtain ⟨cap, cur, hbb, hgb, _⟩ := h1.mem.body
  exact ⟨v, ⟨h1.blk.grown hg (fun e => hb.ne h1.blk (by cases e; rfl)), h1.mem.grown hg (fun e => hb.ne hbb (by cases e; rfl)) (fun e => hb.ne hgb (by cases e; rfl)), h1.imgs.kept hg (fun k t cs e hk => by cases e; exact absurd rfl (hb.ne hk))⟩,
    h2.grown hg h2.size (fun k e => by cases e; exact hW), h3, h4, h5⟩
theorem kt_mapped (hb : BoolMap w mb N f) (hg : w.grownBy w' (some mb)) : KT w w' := fun v I ht => ht.kept hg (fun k t cs e hk => by cases e; exact absurd rfl (hb.ne hk))
theorem bool_put {D : DataW Unit} (hD : IsMap D) (hat : ∀ k : Int, D.atKey (.int .i64 k) (.lit (.bool false)) = .lit (.bool (f k))) (t : Int) : ∀ j : Int, (D.put (.int .i64 t) (.lit (.bool true))).atKey (.int .i64 j) (.lit (.bool false)) = .lit (.bool (f j || t == j)) := by
  intro j
  by_cases hj : t = j
  · subst hj
    rw [atKey_put_same hD (by trivial)]
    simp
  · rw [atKey_put_other (fun e => by cases e; exact hj rfl), hat]
    have : (t == j) = false := beq_f hj
    rw [this, Bool.or_false]
theorem Uno.boolmap (h : Uno W w p b g s) (hb : BoolMap w mb N f) (hg : w.grownBy w' (some g)) : BoolMap w' mb N f := by
  obtain ⟨cap, cur, _, hgb, _⟩ := h.mem.body
  exact hb.kept hg (fun e => hb.ne hgb (by cases e; rfl))
theorem texts_form {w : World} {v : Value} {I : List ByteArray} {n : Nat} (h : Texts w v I) (hl : I.length = n) : ∃ A c, v = .slice A n c ∧ n ≤ c ∧ c ≤ maxLen := by
  subst hl
  obtain ⟨A, c, h1, h2, h3, _⟩ := h.parts
  exact ⟨A, c, h1, h2, h3⟩
theorem texts_at {w : World} {A : Option Addr} {n c i : Nat} {I : List ByteArray} {t : ByteArray} (h : Texts w (.slice A n c) I) (ht : I[i]? = some t) : ∃ gb, A = some ⟨gb, 0, none⟩ ∧ w.cell? ⟨gb, i, none⟩ = some (.string t) := by
  obtain ⟨A', c', e, _, _, h1⟩ := h.parts
  cases e
  obtain ⟨gb, cs, e2, _, h2⟩ := h1 i t ht
  exact ⟨gb, e2, h2⟩
theorem row_texts {w : World} {base : Nat} {v : Value} {I : List ByteArray} (h : w.ownsRow base 9 1 v I.length (strCells I)) : Texts w v I := by
  refine ⟨h.1, ?_⟩
  rcases h.2 with h0 | ⟨b, cap, cur, h1, _, h2⟩
  · exact .inl h0
  · exact .inr ⟨b, cap, cur, h1, Nat.zero_le _, h2⟩
theorem Sound.cut {n k : Nat} {s : St} (h : Sound n k s) (P : List Int) : Sound n (k + 1) { s with M := doneM (pick P) s.M (idxs Sec.dirty s.M) } := h.step ⟨3, 0, 0, 0, P⟩
theorem uno_dirty0 (h : Uno W w p b g s) (hs : Sound n k s) (hn : n ≤ 64) (h0 : idxs Sec.dirty s.M = []) :
    Calls Try.prog 23 #[.pointer (some ⟨b, 0, none⟩)] w fun e w' => e = .returned (.slice none 0 0) ∧ Hid (Uno W w' p b g s) ∧ Hid (Below w.heap.size w w') := by
  refine (Dirty_any h.mem (by rw [hs.len]; omega)).mono ?_
  rintro e w' ⟨v, rfl, H⟩
  rw [H.2.1.2 h0]
  exact ⟨rfl, h.on H.2.2, H.2.2⟩
/-- What the last loop looks at. -/
structure Look (W w : World) (mb N : Nat) (f : Int → Bool) (vo vf vn : Value) (O F R : List ByteArray) : Prop where
  bel : Below W.heap.size W w
  bm : BoolMap w mb N f
  txo : Texts w vo O
  txf : Texts w vf F
  txn : Texts w vn R
theorem Look.on {vo vf vn : Value} {O F R : List ByteArray} (h : Look W w mb N f vo vf vn O F R) (hB : Below w.heap.size w w') : Look W w' mb N f vo vf vn O F R :=
  ⟨h.bel.trans (hB.mono h.bel.size), h.bm.below hB, h.txo.below' hB, h.txf.below' hB, h.txn.below' hB⟩
theorem Look.drew {vo vf vn : Value} {O F R : List ByteArray} (h : Look W w mb N f vo vf vn O F R) : Look W w.drew mb N f vo vf vn O F R := h.on (Below.refl _ w).drew
end
end Go.Proofs.Ytgieiehpnjhkoaa
