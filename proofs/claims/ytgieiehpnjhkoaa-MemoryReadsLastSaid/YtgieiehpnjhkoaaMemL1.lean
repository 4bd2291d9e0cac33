/-
  Layer 22 (memory): two players side by side.
-/
import Derived.Test.YtgieiehpnjhkoaaMemP4
import Derived.Test.YtgieiehpnjhkoaaMemO1
namespace Go.Proofs.Ytgieiehpnjhkoaa
open Go.RowKit Go.Shelf

theorem Fr.pl {w w' : World} {p g : Nat} {v v' : Value} {L : Nat} {tP tM tS tP2 tM2 tS2 : TypeId} {b q b2 g2 : Nat} {v2 : Value} {s s2 : St} (h : Fr w w' p g v v' L) (hp : IsPl tP tM tS w p b g v s) (hq : IsPl tP2 tM2 tS2 w q b2 g2 v2 s2)
    (hqp : tP2 ≠ tP ∨ q ≠ p) (hgg : tS2 ≠ tS ∨ g2 ≠ g) (hsep : ∀ k, v2.ownBlock = some k → v.ownBlock = some k → s2.imgs.length ≤ L)
    (q1 : tP2 ≠ tS) (q2 : tP2 ≠ 54) (q3 : tM2 ≠ tP) (q4 : tM2 ≠ tS) (q5 : tM2 ≠ 54) (q6 : tS2 ≠ tP) (q7 : tS2 ≠ 54) (q8 : 9 ≠ tP) (q9 : 9 ≠ tS) (q10 : 54 ≠ tP) (q11 : 54 ≠ tS) : IsPl tP2 tM2 tS2 w' q b2 g2 v2 s2 :=
  ⟨h.blk hp hq.blk hqp (.inl q1) q2, h.mem (tM2 := tM2) (tS2 := tS2) (q := q) hp hq.mem q3 q4 q5 q6 hgg q7, h.imgs hp q8 q9 q10 q11 hq.imgs hsep⟩

/-- Both players, each in its state, behind the arguments' world W. -/
def Duo (W w : World) (p b g r rb rg : Nat) (s1 s2 : St) : Prop :=
  ∃ v rv, IsPl 42 70 68 w p b g v s1 ∧ IsPl 44 77 79 w r rb rg rv s2 ∧ Below W.heap.size W w ∧
    (∀ k, v.ownBlock = some k → W.heap.size ≤ k) ∧ (∀ k, rv.ownBlock = some k → W.heap.size ≤ k) ∧ (∀ k, v.ownBlock = some k → rv.ownBlock ≠ some k)

/-- Where both lie. -/
structure Lies (W : World) (p g r rg : Nat) : Prop where
  hp : W.heap.size ≤ p
  hg : W.heap.size ≤ g
  hr : W.heap.size ≤ r
  hrg : W.heap.size ≤ rg

theorem imgs_lt {w : World} {v : Value} {I : List (List ByteArray)} (h : Imgs w v I) : ∀ k, v.ownBlock = some k → k < w.heap.size := fun k hk => by
  obtain ⟨vals, h1, _⟩ := h
  exact (h1.lt k hk).2

section
variable {W w : World} {p b g r rb rg n k : Nat} {s1 s2 : St}
theorem duo_play1 (hl : Lies W p g r rg) (h : Duo W w p b g r rb rg s1 s2) (hs : Sound n k s1) (hn : n ≤ 64) (hk : k ≤ 4096) (o : PlainOp) (x : Value) (hx : OpOk W o x) {er : Int} {t : St} (ht : step o s1 = (er, t)) :
    Calls Try.prog 13 #[.pointer (some ⟨p, 0, none⟩), x] w fun e w' => e = .returned (.int .i64 er) ∧ Hid (Duo W w' p b g r rb rg t s2) ∧ ∀ j cs, Blk w j 37 cs → Blk w' j 37 cs := by
  obtain ⟨v, rv, h1, h2, hB, hv, hrv, hsep⟩ := h
  refine (play_any hB h1 hs (by omega) hk o x hx hl.hg).mono ?_
  rintro e w' ⟨rfl, v', h1', hF⟩
  rw [ht] at h1'
  refine ⟨by rw [ht], ⟨v', rv, h1', hF.pl h1 h2 (.inl (by decide)) (.inl (by decide)) (fun k e1 e2 => absurd e1 (hsep k e2)) (by decide) (by decide) (by decide) (by decide) (by decide) (by decide) (by decide) (by decide) (by decide) (by decide) (by decide), hF.below hB hB.size hl.hp hl.hg hv, ?_, hrv, ?_⟩, fun j cs hj => hF.blk h1 hj (.inl (by decide)) (.inl (by decide)) (by decide)⟩
  · intro k hk
    rcases hF.own k hk with h3 | h3
    · exact hv k h3
    · exact Nat.le_trans hB.size h3
  · intro k hk e
    rcases hF.own k hk with h3 | h3
    · exact hsep k h3 e
    · have := imgs_lt h2.imgs k e
      omega
theorem duo_play2 (hl : Lies W p g r rg) (h : Duo W w p b g r rb rg s1 s2) (hs : Sound n k s2) (hn : n ≤ 64) (hk : k ≤ 4096) (o : PlainOp) (x : Value) (hx : OpOk W o x) {er : Int} {t : St} (ht : step o s2 = (er, t)) :
    Calls Try.prog 14 #[.pointer (some ⟨r, 0, none⟩), x] w fun e w' => e = .returned (.int .i64 er) ∧ Hid (Duo W w' p b g r rb rg s1 t) ∧ ∀ j cs, Blk w j 37 cs → Blk w' j 37 cs := by
  obtain ⟨v, rv, h1, h2, hB, hv, hrv, hsep⟩ := h
  refine (splay_any hB h2 hs (by omega) hk o x hx hl.hrg).mono ?_
  rintro e w' ⟨rfl, v', h2', hF⟩
  rw [ht] at h2'
  refine ⟨by rw [ht], ⟨v, v', hF.pl h2 h1 (.inl (by decide)) (.inl (by decide)) (fun k e1 e2 => absurd e2 (hsep k e1)) (by decide) (by decide) (by decide) (by decide) (by decide) (by decide) (by decide) (by decide) (by decide) (by decide) (by decide), h2', hF.below hB hB.size hl.hr hl.hrg hrv, hv, ?_, ?_⟩, fun j cs hj => hF.blk h2 hj (.inl (by decide)) (.inl (by decide)) (by decide)⟩
  · intro k hk
    rcases hF.own k hk with h3 | h3
    · exact hrv k h3
    · exact Nat.le_trans hB.size h3
  · intro k hk e
    rcases hF.own k e with h3 | h3
    · exact hsep k hk h3
    · have := imgs_lt h1.imgs k hk
      omega
theorem Duo.on {w' : World} (h : Duo W w p b g r rb rg s1 s2) (hB : Below w.heap.size w w') : Duo W w' p b g r rb rg s1 s2 := by
  obtain ⟨v, rv, h1, h2, h3, h4⟩ := h
  exact ⟨v, rv, h1.below hB, h2.below hB, h3.trans (hB.mono h3.size), h4⟩
theorem Duo.bel (h : Duo W w p b g r rb rg s1 s2) : Below W.heap.size W w := by obtain ⟨_, _, _, _, h3, _⟩ := h; exact h3
theorem Duo.c1 (h : Duo W w p b g r rb rg s1 s2) : w.cell? ⟨p, 0, none⟩ = some (.pointer (some ⟨b, 0, none⟩)) := by obtain ⟨_, _, h1, _⟩ := h; exact h1.blk.cell 0
theorem Duo.c2 (h : Duo W w p b g r rb rg s1 s2) : w.cell? ⟨r, 0, none⟩ = some (.pointer (some ⟨rb, 0, none⟩)) := by obtain ⟨_, _, _, h1, _⟩ := h; exact h1.blk.cell 0
theorem Duo.m1 (h : Duo W w p b g r rb rg s1 s2) : PMem w b g s1.M := by obtain ⟨_, _, h1, _⟩ := h; exact h1.mem
theorem Duo.m2 (h : Duo W w p b g r rb rg s1 s2) : RMem w rb rg s2.M := by obtain ⟨_, _, _, h1, _⟩ := h; exact h1.mem
theorem duo_same (h : Duo W w p b g r rb rg s1 s1) (hs : Sound n k s1) (hn : n ≤ 64) :
    Calls Try.prog 15 #[.pointer (some ⟨b, 0, none⟩), .pointer (some ⟨rb, 0, none⟩)] w fun e w' => e = .returned (.bool true) ∧ Hid (Duo W w' p b g r rb rg s1 s1) ∧ ∀ j cs, Blk w j 37 cs → Blk w' j 37 cs := by
  refine (same_true h.m1 h.m2 (by rw [hs.len]; omega)).mono ?_
  rintro e w' ⟨rfl, hB⟩
  exact ⟨rfl, h.on hB, fun j cs hj => hj.below hB hj.lt⟩
theorem duo_start (h1 : 1 ≤ n) (h2 : n ≤ 64) :
    Calls Try.prog 11 #[.int .i64 n] W fun e w' => ∃ p r b g rb rg, e = .returned (.tuple #[.pointer (some ⟨p, 0, none⟩), .pointer (some ⟨r, 0, none⟩), .bool true]) ∧ Hid (Lies W p g r rg) ∧ Hid (Duo W w' p b g r rb rg (startSt n) (startSt n)) := by
  refine (players_ok W n h1 h2).mono ?_
  rintro e w' ⟨p, r, b, g, rb, rg, rfl, a1, a2, a3, a4, i1, i2, hB⟩
  exact ⟨p, r, b, g, rb, rg, rfl, ⟨a1, a3, a2, a4⟩, _, _, i1, i2, hB, fun k e => by simp [Value.ownBlock] at e, fun k e => by simp [Value.ownBlock] at e, fun k e => by simp [Value.ownBlock] at e⟩
end

/-- The state behind the first k operations. -/
def upTo (n : Nat) (ops : List PlainOp) (k : Nat) : St := runs (ops.take k) (startSt n)
theorem upTo_sound (n : Nat) (ops : List PlainOp) (k : Nat) (h : k ≤ ops.length) : Sound n k (upTo n ops k) := by
  have := (blank_sound n).runs (ops.take k)
  rw [List.length_take, Nat.min_eq_left h, Nat.zero_add] at this
  exact this
theorem upTo_succ (n : Nat) (ops : List PlainOp) (k : Nat) (o : PlainOp) (h : ops[k]? = some o) : upTo n ops (k + 1) = (step o (upTo n ops k)).2 := by
  unfold upTo
  rw [List.take_add_one, h]
  exact runs_snoc _ _ _
end Go.Proofs.Ytgieiehpnjhkoaa
