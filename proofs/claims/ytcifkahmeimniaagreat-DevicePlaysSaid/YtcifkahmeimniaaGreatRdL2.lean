/-
  Layer 23 (device): DevicePlays: four devices.
-/
import Derived.Test.YtcifkahmeimniaaGreatRdL1
import Derived.Test.YtcifkahmeimniaaGreatRdW5
import Derived.Test.YtcifkahmeimniaaGreatDevL0
namespace Go.Proofs.YtcifkahmeimniaaGreat
open Go.RowKit Go.Shelf
attribute [local go_sem] Oper.semAt_some

/-- The program's device and the specification's, their copies, their images. -/
structure Quad (W w : World) (a r c u : DAt) (D C : Dev) (v1 v2 : Value) (I : List ByteArray) : Prop where
  dd : MDev W w a D
  tt : MRDev W w r D
  cc : DevIs w c C
  uu : RDevIs w u C
  ac : a.Apart c
  ru : r.Apart u
  xs : r.sb ≠ a.sb ∧ r.fb ≠ a.fb
  us : u.sb ≠ a.sb ∧ u.fb ≠ a.fb
  cs : c.sb ≠ r.sb ∧ c.fb ≠ r.fb
  i1 : Img w v1 I a
  j1 : Img w v1 I r
  i2 : Img w v2 I a
  j2 : Img w v2 I r

section
variable {W w w' : World} {a r c u : DAt} {D C E : Dev} {v1 v2 : Value} {I : List ByteArray} {n s f : Nat}
theorem Quad.on (h : Quad W w a r c u D C v1 v2 I) (hB : Below w.heap.size w w') : Quad W w' a r c u D C v1 v2 I :=
  ⟨h.dd.on hB, h.tt.on hB, h.cc.below hB, h.uu.below hB, h.ac, h.ru, h.xs, h.us, h.cs, h.i1.below hB, h.j1.below hB, h.i2.below hB, h.j2.below hB⟩
/-- Between the two operations. -/
structure Half (W w : World) (a r c u : DAt) (D E C : Dev) (v1 v2 : Value) (I J : List ByteArray) : Prop where
  dd : MDev W w a E
  tt : MRDev W w r D
  cc : DevIs w c C
  uu : RDevIs w u C
  ac : a.Apart c
  ru : r.Apart u
  xs : r.sb ≠ a.sb ∧ r.fb ≠ a.fb
  us : u.sb ≠ a.sb ∧ u.fb ≠ a.fb
  cs : c.sb ≠ r.sb ∧ c.fb ≠ r.fb
  i1 : Img w v1 J a
  j1 : Img w v1 J r
  i2 : Img w v2 I a
  j2 : Img w v2 I r
theorem Half.on {J : List ByteArray} (h : Half W w a r c u D E C v1 v2 I J) (hB : Below w.heap.size w w') : Half W w' a r c u D E C v1 v2 I J :=
  ⟨h.dd.on hB, h.tt.on hB, h.cc.below hB, h.uu.below hB, h.ac, h.ru, h.xs, h.us, h.cs, h.i1.below hB, h.j1.below hB, h.i2.below hB, h.j2.below hB⟩
theorem Quad.do1 (h : Quad W w a r c u D C v1 v2 I) (hD : D.Ok n s f) (hn : n ≤ 4096) (hs : s ≤ 16) (hI : I.length ≤ 4096) (o : DOp) (x : Value) (hx : DOpOk W o x) {R : DRes × Dev × List ByteArray} (hR : dplay o D I = R) :
    Calls Tryz.prog 10 #[.pointer (some ⟨a.d, 0, none⟩), x, v1] w fun e w' => ∃ A m k, e = .returned (.tuple #[.agg #[.string R.1.text, .int .i64 R.1.e], .slice A m k]) ∧ Hid (Half W w' a r c u D R.2.1 C (.slice A m k) v2 I R.2.2) := by
  subst hR
  refine (do_any h.dd hD hn hs h.i1 hI o x hx).mono ?_
  rintro e w' ⟨v', rfl, h1, h2, h3, h4⟩
  obtain ⟨A, m, k, rfl⟩ := h3.slice
  obtain ⟨q1, q2, q3, q4⟩ := RDevIs.sizes h.tt.dev
  have hB := DFr.below h2 h.dd.bel h.dd.bel.size h.dd.hd h.dd.hg h.dd.hsb h.dd.hfb
  refine ⟨A, m, k, rfl, ⟨h.dd.next h2 h1, ⟨h2.rdev h.dd.dev h.tt.dev h.xs.1 h.xs.2, hB, h.tt.hd, h.tt.hg, h.tt.hsb, h.tt.hfb⟩, h2.dev h.dd.dev h.cc h.ac, h2.rdev h.dd.dev h.uu h.us.1 h.us.2, h.ac, h.ru, h.xs, h.us, h.cs, h3, ⟨h3.texts, fun k e => ?_⟩, h2.img h.dd.dev h.i2, ⟨(h2.img h.dd.dev h.i2).texts, h.j2.own⟩⟩⟩
  rcases h4 k e with h5 | h5
  · exact h.j1.own k h5
  · omega
theorem Half.do2 {J : List ByteArray} (h : Half W w a r c u D E C v1 v2 I J) (hD : D.Ok n s f) (hn : n ≤ 4096) (hs : s ≤ 16) (hI : I.length ≤ 4096) (o : DOp) (x : Value) (hx : DOpOk W o x) {R : DRes × Dev × List ByteArray} (hR : dplay o D I = R) (hE : R.2.1 = E) (hJ : R.2.2 = J) :
    Calls Tryz.prog 11 #[.pointer (some ⟨r.d, 0, none⟩), x, v2] w fun e w' => ∃ A m k, e = .returned (.tuple #[.agg #[.string R.1.text, .int .i64 R.1.e], .slice A m k]) ∧ Hid (Quad W w' a r c u E C v1 (.slice A m k) J) ∧ Hid (∀ j cs, Blk w j 38 cs → Blk w' j 38 cs) := by
  subst hR
  subst hE
  subst hJ
  refine (rdo_any h.tt hD hn hs h.j2 hI o x hx).mono ?_
  rintro e w' ⟨v', rfl, h1, h2, h3, h4⟩
  obtain ⟨A, m, k, rfl⟩ := h3.slice
  obtain ⟨q1, q2, q3, q4⟩ := DevIs.sizes h.dd.dev
  have hB := DFr.below h2 h.tt.bel h.tt.bel.size h.tt.hd h.tt.hg h.tt.hsb h.tt.hfb
  refine ⟨A, m, k, rfl, ⟨⟨h2.dev_r h.tt.dev h.dd.dev h.xs.1.symm h.xs.2.symm, hB, h.dd.hd, h.dd.hg, h.dd.hsb, h.dd.hfb⟩, ⟨h1, hB, h.tt.hd, h.tt.hg, h.tt.hsb, h.tt.hfb⟩, h2.dev_r h.tt.dev h.cc h.cs.1 h.cs.2, h2.rdev_r h.tt.dev h.uu h.ru, h.ac, h.ru, h.xs, h.us, h.cs, ⟨(h2.rimg h.tt.dev h.j1).texts, h.i1.own⟩, h2.rimg h.tt.dev h.j1, ⟨h3.texts, fun k e => ?_⟩, h3⟩, fun j cs hj => (h2.rblk h.tt.dev hj (fun e => by cases e) (fun e => by cases e) (fun e => by cases e) (fun e => by cases e)).trans hj⟩
  rcases h4 k e with h5 | h5
  · exact h.i2.own k h5
  · omega
/-- New copies are taken. -/
theorem Quad.copy (h : Quad W w a r c u D C v1 v2 I) {w1 w2 : World} {c' u' : DAt} (hc : DevIs w1 c' D) (l1 : w.heap.size ≤ c'.d ∧ w.heap.size ≤ c'.g ∧ w.heap.size ≤ c'.sb ∧ w.heap.size ≤ c'.fb) (hB1 : Below w.heap.size w w1)
    (hu : RDevIs w2 u' D) (l2 : w1.heap.size ≤ u'.d ∧ w1.heap.size ≤ u'.g ∧ w1.heap.size ≤ u'.sb ∧ w1.heap.size ≤ u'.fb) (hB2 : Below w1.heap.size w1 w2) : Quad W w2 a r c' u' D D v1 v2 I := by
  have h2 := (h.on hB1).on hB2
  obtain ⟨q1, q2, q3, q4⟩ := DevIs.sizes h.dd.dev
  obtain ⟨p1, p2, p3, p4⟩ := RDevIs.sizes h.tt.dev
  have hz := hB1.size
  exact ⟨h2.dd, h2.tt, hc.below hB2, hu, ⟨by omega, by omega, by omega, by omega⟩, ⟨by omega, by omega, by omega, by omega⟩, h.xs, ⟨by omega, by omega⟩, ⟨by omega, by omega⟩, h2.i1, h2.j1, h2.i2, h2.j2⟩
end
end Go.Proofs.YtcifkahmeimniaaGreat
