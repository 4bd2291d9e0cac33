/-
  Layer 23 (device): what lies beside a device that is operated; a device behind the arguments' world.
-/
import Derived.Test.YtcifkahmeimniaaDevW18
import Derived.Test.YtcifkahmeimniaaDevP3
import Derived.Test.YtcifkahmeimniaaDevQ1
namespace Go.Proofs.Ytcifkahmeimniaa
open Go.RowKit Go.Shelf

theorem ownsRow_same {w w' : World} {base : Nat} {e : TypeId} {size : Nat} {v : Value} {n : Nat} {xs : List Value} (h : w.ownsRow base e size v n xs) (hk : ∀ k cs, v.ownBlock = some k → Blk w k e cs → w'.heap[k]? = w.heap[k]?) : w'.ownsRow base e size v n xs := by
  obtain ⟨h1, h2⟩ := h
  refine ⟨h1, ?_⟩
  rcases h2 with h2 | ⟨g, cap, cur, hv, hg, hh, r⟩
  · exact Or.inl h2
  · exact Or.inr ⟨g, cap, cur, hv, hg, (hk g cur (by rw [hv]; rfl) hh).trans hh, r⟩
theorem ownsRow_blk {w : World} {base : Nat} {e : TypeId} {size k n c : Nat} {xs : List Value} (h : w.ownsRow base e size (.slice (some ⟨k, 0, none⟩) n c) n xs) : ∃ cur, Blk w k e cur := by
  rcases h.2 with ⟨h0, _⟩ | ⟨g, cap, cur, hv, _, hh, _⟩
  · cases h0
  · cases hv
    exact ⟨cur, hh⟩

/-- Where a device lies. -/
structure DAt where
  d : Nat
  b : Nat
  g : Nat
  sb : Nat
  sc : Nat
  fb : Nat
  fc : Nat
/-- Two devices have no block in common that is written. -/
structure DAt.Apart (a c : DAt) : Prop where
  d : c.d ≠ a.d
  g : c.g ≠ a.g
  sb : c.sb ≠ a.sb
  fb : c.fb ≠ a.fb
theorem DAt.Apart.symm {a c : DAt} (h : a.Apart c) : c.Apart a := ⟨h.d.symm, h.g.symm, h.sb.symm, h.fb.symm⟩
/-- The device in memory. -/
def DevIs (w : World) (a : DAt) (D : Dev) : Prop := IsDev w a.d a.b a.g a.sb a.sc a.fb a.fc D
/-- What an operation on the device at a leaves. -/
def DLeft (w w' : World) (a : DAt) : Prop := DFr w w' a.d a.g a.sb a.fb

section
variable {W w w' w2 : World} {a c : DAt} {D E : Dev}
theorem DevIs.gblk (h : DevIs w a D) : ∃ cs, Blk w a.g 75 cs := by
  obtain ⟨_, cur, _, h2, _⟩ := h.mem.body
  exact ⟨cur, h2⟩
theorem DevIs.mblk (h : DevIs w a D) : ∃ cs, Blk w a.b 77 cs := by
  obtain ⟨_, cur, h2, _⟩ := h.mem.body
  exact ⟨_, h2⟩
theorem DevIs.sblk (h : DevIs w a D) : ∃ cs, Blk w a.sb 9 cs := ownsRow_blk h.srow
theorem DevIs.fblk (h : DevIs w a D) : ∃ cs, Blk w a.fb 4 cs := ownsRow_blk h.frow
theorem DLeft.blk (hF : DLeft w w' a) (h : DevIs w a D) {k : Nat} {t : TypeId} {cs : Array Value} (hk : Blk w k t cs) (h1 : t = 64 → k ≠ a.d) (h2 : t = 75 → k ≠ a.g) (h3 : t = 9 → k ≠ a.sb) (h4 : t = 4 → k ≠ a.fb) : w'.heap[k]? = w.heap[k]? := by
  obtain ⟨_, q2⟩ := h.gblk
  obtain ⟨_, q3⟩ := h.sblk
  obtain ⟨_, q4⟩ := h.fblk
  refine hF.rest k hk.lt ?_ ?_ ?_ ?_
  · by_cases e : t = 64
    · exact h1 e
    · exact hk.ne_ h.blk e
  · by_cases e : t = 75
    · exact h2 e
    · exact hk.ne_ q2 e
  · by_cases e : t = 9
    · exact h3 e
    · exact hk.ne_ q3 e
  · by_cases e : t = 4
    · exact h4 e
    · exact hk.ne_ q4 e
/-- Another device. -/
theorem DLeft.dev (hF : DLeft w w' a) (h : DevIs w a D) (k : DevIs w c E) (n : a.Apart c) : DevIs w' c E := by
  obtain ⟨cap, cur, m1, m2, m3⟩ := k.mem.body
  refine ⟨(hF.blk h k.blk (fun _ => n.d) (fun e => by cases e) (fun e => by cases e) (fun e => by cases e)).trans k.blk, ⟨k.mem.ne, k.mem.pos, cap, cur, (hF.blk h m1 (fun e => by cases e) (fun e => by cases e) (fun e => by cases e) (fun e => by cases e)).trans m1, (hF.blk h m2 (fun e => by cases e) (fun _ => n.g) (fun e => by cases e) (fun e => by cases e)).trans m2, m3⟩, ?_, ?_⟩
  · refine ownsRow_same k.srow (fun j cs e hj => ?_)
    have : j = c.sb := by cases e; rfl
    exact hF.blk h hj (fun e => by cases e) (fun e => by cases e) (fun _ => by rw [this]; exact n.sb) (fun e => by cases e)
  · refine ownsRow_same k.frow (fun j cs e hj => ?_)
    have : j = c.fb := by cases e; rfl
    exact hF.blk h hj (fun e => by cases e) (fun e => by cases e) (fun e => by cases e) (fun _ => by rw [this]; exact n.fb)
/-- Texts that no device owns. -/
structure Img (w : World) (v : Value) (I : List ByteArray) (a : DAt) : Prop where
  texts : Texts w v I
  own : ∀ k, v.ownBlock = some k → k ≠ a.sb
theorem Img.nil (w : World) (a : DAt) : Img w (.slice none 0 0) [] a := ⟨World.ownsRow_nil _ _ _ _, fun k e => by cases e⟩
theorem Img.slice {v : Value} {I : List ByteArray} (h : Img w v I a) : ∃ A n c, v = .slice A n c := by
  obtain ⟨A, c, e, _⟩ := h.texts.parts
  exact ⟨A, _, c, e⟩
theorem DLeft.img {v : Value} {I : List ByteArray} (hF : DLeft w w' a) (h : DevIs w a D) (k : Img w v I a) : Img w' v I a :=
  ⟨ownsRow_same k.texts (fun j cs e hj => hF.blk h hj (fun e => by cases e) (fun e => by cases e) (fun _ => k.own j e) (fun e => by cases e)), k.own⟩
theorem Img.below {v : Value} {I : List ByteArray} (h : Img w v I a) (hB : Below w.heap.size w w') : Img w' v I a := ⟨ownsRow_below h.texts hB (Nat.le_refl _), h.own⟩
theorem DevIs.below (h : DevIs w a D) (hB : Below w.heap.size w w') : DevIs w' a D := IsDev.below h hB
theorem DLeft.refl (w : World) : DLeft w w a := DFr.refl w
theorem DLeft.trans (h : DLeft w w' a) (k : DLeft w' w2 a) : DLeft w w2 a := DFr.trans (w' := w') h k
theorem DLeft.ofBelow (hB : Below w.heap.size w w') : DLeft w w' a := DFr.ofBelow hB

/-- A device of the call's own: it lies behind the arguments' world W. -/
structure MDev (W w : World) (a : DAt) (D : Dev) : Prop where
  dev : DevIs w a D
  bel : Below W.heap.size W w
  hd : W.heap.size ≤ a.d
  hg : W.heap.size ≤ a.g
  hsb : W.heap.size ≤ a.sb
  hfb : W.heap.size ≤ a.fb
theorem MDev.next (h : MDev W w a D) (hF : DLeft w w' a) (k : DevIs w' a E) : MDev W w' a E :=
  ⟨k, DFr.below hF h.bel h.bel.size h.hd h.hg h.hsb h.hfb, h.hd, h.hg, h.hsb, h.hfb⟩
theorem MDev.on (h : MDev W w a D) (hB : Below w.heap.size w w') : MDev W w' a D :=
  ⟨h.dev.below hB, h.bel.trans (hB.mono h.bel.size), h.hd, h.hg, h.hsb, h.hfb⟩
theorem MDev.beside (h : MDev W w a D) (k : MDev W w c E) (n : a.Apart c) (hF : DLeft w w' a) : MDev W w' c E :=
  ⟨hF.dev h.dev k.dev n, DFr.below hF h.bel h.bel.size h.hd h.hg h.hsb h.hfb, k.hd, k.hg, k.hsb, k.hfb⟩
/-- A device that was made later lies apart. -/
theorem DevIs.apart (h : DevIs w a D) (h1 : w.heap.size ≤ c.d) (h2 : w.heap.size ≤ c.g) (h3 : w.heap.size ≤ c.sb) (h4 : w.heap.size ≤ c.fb) : a.Apart c := by
  obtain ⟨_, q2⟩ := h.gblk
  obtain ⟨_, q3⟩ := h.sblk
  obtain ⟨_, q4⟩ := h.fblk
  have l1 := h.blk.lt
  have l2 := q2.lt
  have l3 := q3.lt
  have l4 := q4.lt
  exact ⟨by omega, by omega, by omega, by omega⟩
theorem Img.fresh {v : Value} {I : List ByteArray} (hT : NewTexts w w' v I) (h : DevIs w a D) : Img w' v I a := by
  refine ⟨⟨hT.1.1, ?_⟩, fun k e => ?_⟩
  · rcases hT.1.2 with h2 | ⟨g, cap, cur, hv, hg, r⟩
    · exact .inl h2
    · exact .inr ⟨g, cap, cur, hv, Nat.zero_le _, r⟩
  · obtain ⟨_, q3⟩ := h.sblk
    have l3 := q3.lt
    have := (hT.1.lt k e).1
    omega
end
end Go.Proofs.Ytcifkahmeimniaa
