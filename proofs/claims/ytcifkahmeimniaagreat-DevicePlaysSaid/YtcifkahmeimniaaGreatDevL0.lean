/-
  Layer 23 (device): what stands at the head of a law's loop.
-/
import Derived.Test.YtcifkahmeimniaaGreatDevS1
namespace Go.Proofs.YtcifkahmeimniaaGreat
open Go.RowKit Go.Shelf

/-- The device, the last image and the size's box, behind the arguments' world W. -/
structure LSt (W w : World) (a : DAt) (x y z : Int) (D : Dev) (v : Value) (I : List ByteArray) : Prop where
  dev : MDev W w a D
  img : Img w v I a
  box : Blk w W.heap.size 23 #[.int .i64 x, .int .i64 y, .int .i64 z]

section
variable {W w w' : World} {a : DAt} {x y z : Int} {D : Dev} {n s f : Nat} {v : Value} {I : List ByteArray}
theorem LSt.on (h : LSt W w a x y z D v I) (hB : Below w.heap.size w w') : LSt W w' a x y z D v I := ⟨h.dev.on hB, h.img.below hB, h.box.below hB h.box.lt⟩
theorem LSt.next {E : Dev} (h : LSt W w a x y z D v I) (hF : DLeft w w' a) (hE : DevIs w' a E) : LSt W w' a x y z E v I :=
  ⟨h.dev.next hF hE, hF.img h.dev.dev h.img, (hF.blk h.dev.dev h.box (fun e => by cases e) (fun e => by cases e) (fun e => by cases e) (fun e => by cases e)).trans h.box⟩
theorem LSt.c (h : LSt W w a x y z D v I) : w.cell? ⟨W.heap.size, 0, none⟩ = some (.int .i64 x) ∧ w.cell? ⟨W.heap.size, 1, none⟩ = some (.int .i64 y) ∧ w.cell? ⟨W.heap.size, 2, none⟩ = some (.int .i64 z) :=
  ⟨h.box.cell 0, h.box.cell 1, h.box.cell 2⟩
theorem LSt.play (h : LSt W w a x y z D v I) (hD : D.Ok n s f) (hn : n ≤ 4096) (hs : s ≤ 16) (hIl : I = [] ∨ I.length = n) (o : DOp) (u : Value) (hu : DOpOk W o u) {R : DRes × Dev × List ByteArray} (hR : dplay o D I = R) :
    Calls Tryz.prog 10 #[.pointer (some ⟨a.d, 0, none⟩), u, v] w fun e w' => ∃ A n c, e = .returned (.tuple #[.agg #[.string R.1.text, .int .i64 R.1.e], .slice A n c]) ∧ Hid (LSt W w' a x y z R.2.1 (.slice A n c) R.2.2) ∧ Hid (DLeft w w' a) ∧ Hid (∀ k, (Value.slice A n c).ownBlock = some k → v.ownBlock = some k ∨ w.heap.size ≤ k) := by
  subst hR
  refine (do_any h.dev hD hn hs h.img (by rcases hIl with rfl | e; exact Nat.zero_le _; omega) o u hu).mono ?_
  rintro e w' ⟨v', rfl, h1, h2, h3, h4⟩
  obtain ⟨A, n', c', rfl⟩ := h3.slice
  have hl := h.next h2 h1
  exact ⟨A, n', c', rfl, ⟨hl.dev, h3, hl.box⟩, h2, h4⟩
theorem law_new (W : World) (hB : Below W.heap.size W w) (hk : Blk w W.heap.size 23 #[.int .i64 x, .int .i64 y, .int .i64 z]) (hn : 1 ≤ n ∧ n ≤ 4096) (hs : 1 ≤ s ∧ s ≤ 16) (hf : 1 ≤ f ∧ f ≤ 16) :
    Calls Tryz.prog 6 #[.int .i64 n, .int .i64 s, .int .i64 f] w fun e w' => ∃ a : DAt, e = .returned (.tuple #[.pointer (some ⟨a.d, 0, none⟩), .int .i64 0]) ∧ Hid (LSt W w' a x y z (freshDev n s f) (.slice none 0 0) []) ∧ Hid (W.heap.size < a.fb ∧ W.heap.size < a.sb) := by
  refine (dNew_ok w n s f hn hs hf).mono ?_
  rintro e w' ⟨a, rfl, h1, ⟨l1, l2, l3, l4⟩, hB2⟩
  have hz := hB.size
  have hl := hk.lt
  exact ⟨a, rfl, ⟨⟨h1, hB.trans (hB2.mono hz), by omega, by omega, by omega, by omega⟩, Img.nil _ _, hk.below hB2 hk.lt⟩, by omega, by omega⟩
/-- A block that is none of the device's, nor the image's, nor the arguments'. -/
structure Off (W : World) (a : DAt) (v : Value) (k : Nat) : Prop where
  W : W.heap.size < k
  d : k ≠ a.d
  b : k ≠ a.b
  g : k ≠ a.g
  sb : k ≠ a.sb
  fb : k ≠ a.fb
  v : v.ownBlock ≠ some k
theorem LSt.grown {row : Option Nat} (h : LSt W w a x y z D v I) (hg : w.grownBy w' row) (hr : ∀ k, row = some k → Off W a v k) : LSt W w' a x y z D v I := by
  have e1 : some a.d ≠ row := fun e => (hr _ e.symm).d rfl
  have e2 : some a.b ≠ row := fun e => (hr _ e.symm).b rfl
  have e3 : some a.g ≠ row := fun e => (hr _ e.symm).g rfl
  have e4 : some a.sb ≠ row := fun e => (hr _ e.symm).sb rfl
  have e5 : some a.fb ≠ row := fun e => (hr _ e.symm).fb rfl
  have e6 : some W.heap.size ≠ row := fun e => by have := (hr _ e.symm).W; omega
  refine ⟨⟨⟨h.dev.dev.blk.grown hg e1, h.dev.dev.mem.grown hg e2 e3, h.dev.dev.srow.kept hg (.inr e4), h.dev.dev.frow.kept hg (.inr e5)⟩, h.dev.bel.grown hg h.dev.bel.size (fun k e => by have := (hr k e).W; omega), h.dev.hd, h.dev.hg, h.dev.hsb, h.dev.hfb⟩, ⟨World.ownsRow.kept h.img.texts hg ?_, h.img.own⟩, h.box.grown hg e6⟩
  cases hv : v.ownBlock with
  | none => exact .inl rfl
  | some k => exact .inr (fun e => (hr k e.symm).v hv)
theorem LSt.off (h : LSt W w a x y z D v I) : ∀ k, w.heap.size ≤ k → Off W a v k := by
  obtain ⟨l1, l2, l3, l4⟩ := DevIs.sizes h.dev.dev
  have l5 := h.dev.dev.mem.lt.1
  have l6 := h.box.lt
  intro k hk
  refine ⟨by omega, by omega, by omega, by omega, by omega, by omega, fun e => ?_⟩
  have := (World.ownsRow.lt h.img.texts k e).2
  omega
theorem Off.next {u : Value} {k : Nat} (h : Off W a v k) (hk : k < w.heap.size) (hv : ∀ k, u.ownBlock = some k → v.ownBlock = some k ∨ w.heap.size ≤ k) : Off W a u k :=
  ⟨h.W, h.d, h.b, h.g, h.sb, h.fb, fun e => by
    rcases hv k e with h1 | h1
    · exact h.v h1
    · omega⟩
theorem ownsRow_left {base : Nat} {e : TypeId} {u : Value} {m : Nat} {xs : List Value} (hr : w.ownsRow base e 1 u m xs) (hF : DLeft w w' a) (h : DevIs w a D) (h1 : ∀ k, base ≤ k → k ≠ a.d ∧ k ≠ a.g ∧ k ≠ a.sb ∧ k ≠ a.fb) : w'.ownsRow base e 1 u m xs :=
  ownsRow_same hr (fun k cs hk hb => by
    obtain ⟨e1, e2, e3, e4⟩ := h1 k (hr.lt k hk).1
    exact hF.blk h hb (fun _ => e1) (fun _ => e2) (fun _ => e3) (fun _ => e4))
/-- The size's box, and what follows it. -/
theorem box_new (W : World) (x y z : Int) : Blk (W.alloc (.cells #[.int .i64 x, .int .i64 y, .int .i64 z] 23)) W.heap.size 23 #[.int .i64 x, .int .i64 y, .int .i64 z] ∧ Below W.heap.size W (W.alloc (.cells #[.int .i64 x, .int .i64 y, .int .i64 z] 23)) :=
  ⟨Blk.new W _ _, (Below.refl _ _).alloc (Nat.le_refl _) _⟩
/-- A box behind what wrote nothing that lay. -/
def Boxed (W w : World) (x y z : Int) : Prop := Blk w W.heap.size 23 #[.int .i64 x, .int .i64 y, .int .i64 z] ∧ Below W.heap.size W w
theorem Boxed.on (h : Boxed W w x y z) (hB : Below w.heap.size w w') : Boxed W w' x y z := ⟨h.1.below hB h.1.lt, h.2.trans (hB.mono h.2.size)⟩
theorem Boxed.c (h : Boxed W w x y z) : w.cell? ⟨W.heap.size, 0, none⟩ = some (.int .i64 x) ∧ w.cell? ⟨W.heap.size, 1, none⟩ = some (.int .i64 y) ∧ w.cell? ⟨W.heap.size, 2, none⟩ = some (.int .i64 z) :=
  ⟨h.1.cell 0, h.1.cell 1, h.1.cell 2⟩
/-- The size is a device's. -/
def SizeOk (x y z : Int) : Prop := 1 ≤ x ∧ x ≤ 4096 ∧ 1 ≤ y ∧ y ≤ 16 ∧ 1 ≤ z ∧ z ≤ 16
end
end Go.Proofs.YtcifkahmeimniaaGreat
