/-
  Layer 22 (memory): two players and their clones.
-/
import Derived.Test.YtgieiehpnjhkoaaMemL1
namespace Go.Proofs.Ytgieiehpnjhkoaa
open Go.RowKit Go.Shelf

/-- Where the four lie. -/
structure QL (W : World) (p g r rg q qg s sg : Nat) : Prop where
  l1 : Lies W p g r rg
  l2 : Lies W q qg s sg
  qp : q ≠ p
  gg : qg ≠ g
  sr : s ≠ r
  hh : sg ≠ rg

/-- Both players in their states, both clones in the state of the cloning; the images' arrays may be shared. -/
def Quad (W w : World) (p b g r rb rg q qb qg s sb sg : Nat) (sp sr s2 : St) : Prop :=
  ∃ v rv vq vs, IsPl 42 70 68 w p b g v sp ∧ IsPl 44 77 79 w r rb rg rv sr ∧ IsPl 42 70 68 w q qb qg vq s2 ∧ IsPl 44 77 79 w s sb sg vs s2 ∧ Below W.heap.size W w ∧
    (∀ k, v.ownBlock = some k → W.heap.size ≤ k) ∧ (∀ k, rv.ownBlock = some k → W.heap.size ≤ k) ∧ (∀ k, vq.ownBlock = some k → W.heap.size ≤ k) ∧ (∀ k, vs.ownBlock = some k → W.heap.size ≤ k) ∧
    (∀ k, v.ownBlock = some k → rv.ownBlock ≠ some k) ∧ (∀ k, v.ownBlock = some k → vs.ownBlock ≠ some k) ∧ (∀ k, vq.ownBlock = some k → rv.ownBlock ≠ some k) ∧ (∀ k, vq.ownBlock = some k → vs.ownBlock ≠ some k) ∧
    (∀ k, v.ownBlock = some k → vq.ownBlock = some k → s2.imgs.length ≤ sp.imgs.length) ∧ (∀ k, rv.ownBlock = some k → vs.ownBlock = some k → s2.imgs.length ≤ sr.imgs.length)

theorem step_more (o : PlainOp) (s : St) : s.imgs.length ≤ (step o s).2.imgs.length := by
  rw [step_imgs]
  split
  · simp
  · exact Nat.le_refl _

section
variable {W w w' : World} {p b g r rb rg q qb qg s sb sg n k : Nat} {sp sr s2 : St}
theorem quad_play1 (hl : QL W p g r rg q qg s sg) (h : Quad W w p b g r rb rg q qb qg s sb sg sp sr s2) (hs : Sound n k sp) (hn : n ≤ 64) (hk : k ≤ 4096) (o : PlainOp) (x : Value) (hx : OpOk W o x) {er : Int} {t : St} (ht : step o sp = (er, t)) :
    Calls Try.prog 13 #[.pointer (some ⟨p, 0, none⟩), x] w fun e w' => e = .returned (.int .i64 er) ∧ Hid (Quad W w' p b g r rb rg q qb qg s sb sg t sr s2) ∧ ∀ j cs, Blk w j 37 cs → Blk w' j 37 cs := by
  obtain ⟨v, rv, vq, vs, h1, h2, h3, h4, hB, o1, o2, o3, o4, d1, d2, d3, d4, m1, m2⟩ := h
  refine (play_any hB h1 hs (by omega) hk o x hx hl.l1.hg).mono ?_
  rintro e w' ⟨rfl, v', h1', hF⟩
  have hmore := step_more o sp
  rw [ht] at h1' hmore
  have hown : ∀ k, v'.ownBlock = some k → v.ownBlock = some k ∨ w.heap.size ≤ k := hF.own
  have fresh : ∀ {u : Value} {I : List (List ByteArray)}, Imgs w u I → ∀ k, w.heap.size ≤ k → u.ownBlock ≠ some k := fun hu k hk e => by have := imgs_lt hu k e; omega
  refine ⟨by rw [ht], ⟨v', rv, vq, vs, h1', hF.pl h1 h2 (.inl (by decide)) (.inl (by decide)) (fun k e1 e2 => absurd e1 (d1 k e2)) (by decide) (by decide) (by decide) (by decide) (by decide) (by decide) (by decide) (by decide) (by decide) (by decide) (by decide),
    hF.pl h1 h3 (.inr hl.qp) (.inr hl.gg) (fun k e1 e2 => m1 k e2 e1) (by decide) (by decide) (by decide) (by decide) (by decide) (by decide) (by decide) (by decide) (by decide) (by decide) (by decide),
    hF.pl h1 h4 (.inl (by decide)) (.inl (by decide)) (fun k e1 e2 => absurd e1 (d2 k e2)) (by decide) (by decide) (by decide) (by decide) (by decide) (by decide) (by decide) (by decide) (by decide) (by decide) (by decide),
    hF.below hB hB.size hl.l1.hp hl.l1.hg o1, ?_, o2, o3, o4, ?_, ?_, d3, d4, ?_, m2⟩, fun j cs hj => hF.blk h1 hj (.inl (by decide)) (.inl (by decide)) (by decide)⟩
  · intro k hk
    rcases hown k hk with h5 | h5
    · exact o1 k h5
    · exact Nat.le_trans hB.size h5
  · intro k hk
    rcases hown k hk with h5 | h5
    · exact d1 k h5
    · exact fresh h2.imgs k h5
  · intro k hk
    rcases hown k hk with h5 | h5
    · exact d2 k h5
    · exact fresh h4.imgs k h5
  · intro k hk e
    rcases hown k hk with h5 | h5
    · exact Nat.le_trans (m1 k h5 e) hmore
    · exact absurd e (fresh h3.imgs k h5)
theorem quad_play2 (hl : QL W p g r rg q qg s sg) (h : Quad W w p b g r rb rg q qb qg s sb sg sp sr s2) (hs : Sound n k sr) (hn : n ≤ 64) (hk : k ≤ 4096) (o : PlainOp) (x : Value) (hx : OpOk W o x) {er : Int} {t : St} (ht : step o sr = (er, t)) :
    Calls Try.prog 14 #[.pointer (some ⟨r, 0, none⟩), x] w fun e w' => e = .returned (.int .i64 er) ∧ Hid (Quad W w' p b g r rb rg q qb qg s sb sg sp t s2) ∧ ∀ j cs, Blk w j 37 cs → Blk w' j 37 cs := by
  obtain ⟨v, rv, vq, vs, h1, h2, h3, h4, hB, o1, o2, o3, o4, d1, d2, d3, d4, m1, m2⟩ := h
  refine (splay_any hB h2 hs (by omega) hk o x hx hl.l1.hrg).mono ?_
  rintro e w' ⟨rfl, v', h2', hF⟩
  have hmore := step_more o sr
  rw [ht] at h2' hmore
  have hown : ∀ k, v'.ownBlock = some k → rv.ownBlock = some k ∨ w.heap.size ≤ k := hF.own
  have fresh : ∀ {u : Value} {I : List (List ByteArray)}, Imgs w u I → ∀ k, w.heap.size ≤ k → u.ownBlock ≠ some k := fun hu k hk e => by have := imgs_lt hu k e; omega
  refine ⟨by rw [ht], ⟨v, v', vq, vs, hF.pl h2 h1 (.inl (by decide)) (.inl (by decide)) (fun k e1 e2 => absurd e2 (d1 k e1)) (by decide) (by decide) (by decide) (by decide) (by decide) (by decide) (by decide) (by decide) (by decide) (by decide) (by decide), h2',
    hF.pl h2 h3 (.inl (by decide)) (.inl (by decide)) (fun k e1 e2 => absurd e2 (d3 k e1)) (by decide) (by decide) (by decide) (by decide) (by decide) (by decide) (by decide) (by decide) (by decide) (by decide) (by decide),
    hF.pl h2 h4 (.inr hl.sr) (.inr hl.hh) (fun k e1 e2 => m2 k e2 e1) (by decide) (by decide) (by decide) (by decide) (by decide) (by decide) (by decide) (by decide) (by decide) (by decide) (by decide),
    hF.below hB hB.size hl.l1.hr hl.l1.hrg o2, o1, ?_, o3, o4, ?_, d2, ?_, d4, m1, ?_⟩, fun j cs hj => hF.blk h2 hj (.inl (by decide)) (.inl (by decide)) (by decide)⟩
  · intro k hk
    rcases hown k hk with h5 | h5
    · exact o2 k h5
    · exact Nat.le_trans hB.size h5
  · intro k hk e
    rcases hown k e with h5 | h5
    · exact d1 k hk h5
    · exact fresh h1.imgs k h5 hk
  · intro k hk e
    rcases hown k e with h5 | h5
    · exact d3 k hk h5
    · exact fresh h3.imgs k h5 hk
  · intro k hk e
    rcases hown k hk with h5 | h5
    · exact Nat.le_trans (m2 k h5 e) hmore
    · exact absurd e (fresh h4.imgs k h5)
theorem Quad.on (h : Quad W w p b g r rb rg q qb qg s sb sg sp sr s2) (hB : Below w.heap.size w w') : Quad W w' p b g r rb rg q qb qg s sb sg sp sr s2 := by
  obtain ⟨v, rv, vq, vs, h1, h2, h3, h4, hb, h5⟩ := h
  exact ⟨v, rv, vq, vs, h1.below hB, h2.below hB, h3.below hB, h4.below hB, hb.trans (hB.mono hb.size), h5⟩
theorem Quad.bel (h : Quad W w p b g r rb rg q qb qg s sb sg sp sr s2) : Below W.heap.size W w := by obtain ⟨_, _, _, _, _, _, _, _, hb, _⟩ := h; exact hb
theorem Quad.c3 (h : Quad W w p b g r rb rg q qb qg s sb sg sp sr s2) : w.cell? ⟨q, 0, none⟩ = some (.pointer (some ⟨qb, 0, none⟩)) := by obtain ⟨_, _, _, _, _, _, h3, _⟩ := h; exact h3.blk.cell 0
theorem Quad.c4 (h : Quad W w p b g r rb rg q qb qg s sb sg sp sr s2) : w.cell? ⟨s, 0, none⟩ = some (.pointer (some ⟨sb, 0, none⟩)) := by obtain ⟨_, _, _, _, _, _, _, h4, _⟩ := h; exact h4.blk.cell 0
theorem quad_same (h : Quad W w p b g r rb rg q qb qg s sb sg sp sr s2) (hs : Sound n k s2) (hn : n ≤ 64) :
    Calls Try.prog 15 #[.pointer (some ⟨qb, 0, none⟩), .pointer (some ⟨sb, 0, none⟩)] w fun e w' => e = .returned (.bool true) ∧ Hid (Quad W w' p b g r rb rg q qb qg s sb sg sp sr s2) := by
  have h' := h
  obtain ⟨v, rv, vq, vs, h1, h2, h3, h4, _⟩ := h
  refine (same_true h3.mem h4.mem (by rw [hs.len]; omega)).mono ?_
  rintro e w' ⟨rfl, hB⟩
  exact ⟨rfl, h'.on hB⟩

/-- The clones play on; of the others the memories lie. -/
def Tail (W w : World) (p b g r rb rg q qb qg s sb sg : Nat) (M : List Sec) (sq ss : St) : Prop :=
  Duo W w q qb qg s sb sg sq ss ∧ (∃ x y, Blk w p 42 #[.pointer (some ⟨b, 0, none⟩), x] ∧ Blk w r 44 #[.pointer (some ⟨rb, 0, none⟩), y]) ∧ PMem w b g M ∧ RMem w rb rg M
theorem Quad.tail (h : Quad W w p b g r rb rg q qb qg s sb sg sp sr s2) (he : sp = sr) : Tail W w p b g r rb rg q qb qg s sb sg sp.M s2 s2 := by
  subst he
  obtain ⟨v, rv, vq, vs, h1, h2, h3, h4, hB, o1, o2, o3, o4, d1, d2, d3, d4, m1, m2⟩ := h
  exact ⟨⟨vq, vs, h3, h4, hB, o3, o4, d4⟩, ⟨_, _, h1.blk, h2.blk⟩, h1.mem, h2.mem⟩
variable {M : List Sec} {sq ss : St}
theorem Tail.on (h : Tail W w p b g r rb rg q qb qg s sb sg M sq ss) (hB : Below w.heap.size w w') : Tail W w' p b g r rb rg q qb qg s sb sg M sq ss := by
  obtain ⟨h1, ⟨x, y, h2, h3⟩, h4, h5⟩ := h
  exact ⟨h1.on hB, ⟨x, y, h2.below hB h2.lt, h3.below hB h3.lt⟩, h4.below hB h4.lt.1 h4.lt.2, h5.below hB h5.lt.1 h5.lt.2⟩
theorem tail_play1 (hl : QL W p g r rg q qg s sg) (h : Tail W w p b g r rb rg q qb qg s sb sg M sq ss) (hs : Sound n k sq) (hn : n ≤ 64) (hk : k ≤ 4096) (o : PlainOp) (x : Value) (hx : OpOk W o x) {er : Int} {t : St} (ht : step o sq = (er, t)) :
    Calls Try.prog 13 #[.pointer (some ⟨q, 0, none⟩), x] w fun e w' => e = .returned (.int .i64 er) ∧ Hid (Tail W w' p b g r rb rg q qb qg s sb sg M t ss) ∧ ∀ j cs, Blk w j 37 cs → Blk w' j 37 cs := by
  obtain ⟨⟨v, rv, h1, h2, hB, hv, hrv, hsep⟩, ⟨x1, y1, hb1, hb2⟩, hm1, hm2⟩ := h
  refine (play_any hB h1 hs (by omega) hk o x hx hl.l2.hg).mono ?_
  rintro e w' ⟨rfl, v', h1', hF⟩
  rw [ht] at h1'
  refine ⟨by rw [ht], ⟨⟨v', rv, h1', hF.pl h1 h2 (.inl (by decide)) (.inl (by decide)) (fun k e1 e2 => absurd e1 (hsep k e2)) (by decide) (by decide) (by decide) (by decide) (by decide) (by decide) (by decide) (by decide) (by decide) (by decide) (by decide), hF.below hB hB.size hl.l2.hp hl.l2.hg hv, ?_, hrv, ?_⟩,
    ⟨x1, y1, hF.blk h1 hb1 (.inr hl.qp.symm) (.inl (by decide)) (by decide), hF.blk h1 hb2 (.inl (by decide)) (.inl (by decide)) (by decide)⟩,
    hF.mem (q := q) h1 hm1 (by decide) (by decide) (by decide) (by decide) (.inr hl.gg.symm) (by decide), hF.mem (q := q) h1 hm2 (by decide) (by decide) (by decide) (by decide) (.inl (by decide)) (by decide)⟩,
    fun j cs hj => hF.blk h1 hj (.inl (by decide)) (.inl (by decide)) (by decide)⟩
  · intro k hk
    rcases hF.own k hk with h3 | h3
    · exact hv k h3
    · exact Nat.le_trans hB.size h3
  · intro k hk e
    rcases hF.own k hk with h3 | h3
    · exact hsep k h3 e
    · have := imgs_lt h2.imgs k e
      omega
theorem tail_play2 (hl : QL W p g r rg q qg s sg) (h : Tail W w p b g r rb rg q qb qg s sb sg M sq ss) (hs : Sound n k ss) (hn : n ≤ 64) (hk : k ≤ 4096) (o : PlainOp) (x : Value) (hx : OpOk W o x) {er : Int} {t : St} (ht : step o ss = (er, t)) :
    Calls Try.prog 14 #[.pointer (some ⟨s, 0, none⟩), x] w fun e w' => e = .returned (.int .i64 er) ∧ Hid (Tail W w' p b g r rb rg q qb qg s sb sg M sq t) ∧ ∀ j cs, Blk w j 37 cs → Blk w' j 37 cs := by
  obtain ⟨⟨v, rv, h1, h2, hB, hv, hrv, hsep⟩, ⟨x1, y1, hb1, hb2⟩, hm1, hm2⟩ := h
  refine (splay_any hB h2 hs (by omega) hk o x hx hl.l2.hrg).mono ?_
  rintro e w' ⟨rfl, v', h2', hF⟩
  rw [ht] at h2'
  refine ⟨by rw [ht], ⟨⟨v, v', hF.pl h2 h1 (.inl (by decide)) (.inl (by decide)) (fun k e1 e2 => absurd e2 (hsep k e1)) (by decide) (by decide) (by decide) (by decide) (by decide) (by decide) (by decide) (by decide) (by decide) (by decide) (by decide), h2', hF.below hB hB.size hl.l2.hr hl.l2.hrg hrv, hv, ?_, ?_⟩,
    ⟨x1, y1, hF.blk h2 hb1 (.inl (by decide)) (.inl (by decide)) (by decide), hF.blk h2 hb2 (.inr hl.sr.symm) (.inl (by decide)) (by decide)⟩,
    hF.mem (q := s) h2 hm1 (by decide) (by decide) (by decide) (by decide) (.inl (by decide)) (by decide), hF.mem (q := s) h2 hm2 (by decide) (by decide) (by decide) (by decide) (.inr hl.hh.symm) (by decide)⟩,
    fun j cs hj => hF.blk h2 hj (.inl (by decide)) (.inl (by decide)) (by decide)⟩
  · intro k hk
    rcases hF.own k hk with h3 | h3
    · exact hrv k h3
    · exact Nat.le_trans hB.size h3
  · intro k hk e
    rcases hF.own k e with h3 | h3
    · exact hsep k hk h3
    · have := imgs_lt h1.imgs k hk
      omega
theorem Tail.bel (h : Tail W w p b g r rb rg q qb qg s sb sg M sq ss) : Below W.heap.size W w := h.1.bel
theorem Tail.cells (h : Tail W w p b g r rb rg q qb qg s sb sg M sq ss) : w.cell? ⟨p, 0, none⟩ = some (.pointer (some ⟨b, 0, none⟩)) ∧ w.cell? ⟨r, 0, none⟩ = some (.pointer (some ⟨rb, 0, none⟩)) ∧ w.cell? ⟨q, 0, none⟩ = some (.pointer (some ⟨qb, 0, none⟩)) ∧ w.cell? ⟨s, 0, none⟩ = some (.pointer (some ⟨sb, 0, none⟩)) := by
  obtain ⟨h1, ⟨x, y, h2, h3⟩, _⟩ := h
  exact ⟨h2.cell 0, h3.cell 0, h1.c1, h1.c2⟩
theorem tail_same1 (h : Tail W w p b g r rb rg q qb qg s sb sg M sq ss) (hM : M.length ≤ 4096) :
    Calls Try.prog 15 #[.pointer (some ⟨b, 0, none⟩), .pointer (some ⟨rb, 0, none⟩)] w fun e w' => e = .returned (.bool true) ∧ Hid (Tail W w' p b g r rb rg q qb qg s sb sg M sq ss) := by
  refine (same_true h.2.2.1 h.2.2.2 hM).mono ?_
  rintro e w' ⟨rfl, hB⟩
  exact ⟨rfl, h.on hB⟩
theorem tail_same2 (h : Tail W w p b g r rb rg q qb qg s sb sg M sq sq) (hs : Sound n k sq) (hn : n ≤ 64) :
    Calls Try.prog 15 #[.pointer (some ⟨qb, 0, none⟩), .pointer (some ⟨sb, 0, none⟩)] w fun e w' => e = .returned (.bool true) ∧ Hid (Tail W w' p b g r rb rg q qb qg s sb sg M sq sq) := by
  refine (same_true h.1.m1 h.1.m2 (by rw [hs.len]; omega)).mono ?_
  rintro e w' ⟨rfl, hB⟩
  exact ⟨rfl, h.on hB⟩

/-- Behind the first clone. -/
structure Cl1 (W w : World) (p b g : Nat) (v : Value) (r rb rg : Nat) (rv : Value) (qb qg : Nat) (s0 : St) : Prop where
  pl : IsPl 42 70 68 w p b g v s0
  rl : IsPl 44 77 79 w r rb rg rv s0
  bel : Below W.heap.size W w
  qm : PMem w qb qg s0.M
  ge : W.heap.size ≤ qg
  ne : qg ≠ g
theorem Cl1.on {v rv : Value} {s0 : St} (h : Cl1 W w p b g v r rb rg rv qb qg s0) (hB : Below w.heap.size w w') : Cl1 W w' p b g v r rb rg rv qb qg s0 :=
  ⟨h.pl.below hB, h.rl.below hB, h.bel.trans (hB.mono h.bel.size), h.qm.below hB h.qm.lt.1 h.qm.lt.2, h.ge, h.ne⟩
theorem clone1 {v rv : Value} {s0 : St} (h1 : IsPl 42 70 68 w p b g v s0) (h2 : IsPl 44 77 79 w r rb rg rv s0) (hB : Below W.heap.size W w) (hs : Sound n k s0) (hn : n ≤ 64) :
    Calls Try.prog 28 #[.pointer (some ⟨b, 0, none⟩)] w fun e w' => ∃ qb qg, e = .returned (.pointer (some ⟨qb, 0, none⟩)) ∧ Hid (Cl1 W w' p b g v r rb rg rv qb qg s0) ∧ Hid (Below w.heap.size w w') := by
  refine (Clone_any h1.mem (by rw [hs.len]; omega)).mono ?_
  rintro e w' ⟨qb, qg, rfl, a1, a2, a3, a4⟩
  have := h1.mem.lt
  exact ⟨qb, qg, rfl, ⟨h1.below a4, h2.below a4, hB.trans (a4.mono hB.size), a3, Nat.le_trans hB.size a2, by omega⟩, a4⟩
/-- Behind both. -/
structure Cl2 (W w : World) (p b g : Nat) (v : Value) (r rb rg : Nat) (rv : Value) (q qb qg sb sg : Nat) (s0 : St) : Prop where
  cl : Cl1 W w p b g v r rb rg rv qb qg s0
  qbk : Blk w q 42 #[.pointer (some ⟨qb, 0, none⟩), v]
  sm : RMem w sb sg s0.M
  ge : W.heap.size ≤ sg
  ne : sg ≠ rg
theorem Cl2.on {v rv : Value} {s0 : St} (h : Cl2 W w p b g v r rb rg rv q qb qg sb sg s0) (hB : Below w.heap.size w w') : Cl2 W w' p b g v r rb rg rv q qb qg sb sg s0 :=
  ⟨h.cl.on hB, h.qbk.below hB h.qbk.lt, h.sm.below hB h.sm.lt.1 h.sm.lt.2, h.ge, h.ne⟩
theorem clone2 {v rv : Value} {s0 : St} (h : Cl1 W w p b g v r rb rg rv qb qg s0) (hq : Blk w q 42 #[.pointer (some ⟨qb, 0, none⟩), v]) (hs : Sound n k s0) (hn : n ≤ 64) :
    Calls Try.prog 29 #[.pointer (some ⟨rb, 0, none⟩)] w fun e w' => ∃ sb sg, e = .returned (.pointer (some ⟨sb, 0, none⟩)) ∧ Hid (Cl2 W w' p b g v r rb rg rv q qb qg sb sg s0) ∧ Hid (Below w.heap.size w w') := by
  refine (rClone_any h.rl.mem (by rw [hs.len]; omega)).mono ?_
  rintro e w' ⟨sb, sg, rfl, a1, a2, a3, a4⟩
  have := h.rl.mem.lt
  exact ⟨sb, sg, rfl, ⟨h.on a4, hq.below a4 hq.lt, a3, Nat.le_trans h.bel.size a2, by omega⟩, a4⟩
theorem cloned {v rv : Value} {s0 : St} (hl : Lies W p g r rg) (h : Cl2 W w p b g v r rb rg rv q qb qg sb sg s0) (hs : Blk w s 44 #[.pointer (some ⟨sb, 0, none⟩), rv]) (hWq : W.heap.size ≤ q) (hWs : W.heap.size ≤ s) (hqp : q ≠ p) (hsr : s ≠ r)
    (hv : ∀ k, v.ownBlock = some k → W.heap.size ≤ k) (hrv : ∀ k, rv.ownBlock = some k → W.heap.size ≤ k) (hsep : ∀ k, v.ownBlock = some k → rv.ownBlock ≠ some k) :
    QL W p g r rg q qg s sg ∧ Quad W w p b g r rb rg q qb qg s sb sg s0 s0 s0 := by
  refine ⟨⟨hl, ⟨hWq, h.cl.ge, hWs, h.ge⟩, hqp, h.cl.ne, hsr, h.ne⟩, v, rv, v, rv, h.cl.pl, h.cl.rl, ⟨h.qbk, h.cl.qm, h.cl.pl.imgs⟩, ⟨hs, h.sm, h.cl.rl.imgs⟩, h.cl.bel, hv, hrv, hv, hrv, hsep, hsep, hsep, hsep, fun _ _ _ => Nat.le_refl _, fun _ _ _ => Nat.le_refl _⟩
end
end Go.Proofs.Ytgieiehpnjhkoaa
