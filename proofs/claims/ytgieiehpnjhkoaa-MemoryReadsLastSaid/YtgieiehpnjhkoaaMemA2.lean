/-
  Layer 22 (memory): what a play leaves of other blocks; the plain invariant of a script.
-/
import Derived.Test.YtgieiehpnjhkoaaMemT4
import Derived.Test.YtgieiehpnjhkoaaMemA1
namespace Go.Proofs.Ytgieiehpnjhkoaa
open Go.RowKit Go.Shelf

/-- What a play of the player (p, g, v) with L images leaves. -/
structure Fr (w w' : World) (p g : Nat) (v v' : Value) (L : Nat) : Prop where
  os : w'.os = w.os
  tape : w'.tape = w.tape
  output : w'.output = w.output
  size : w.heap.size ≤ w'.heap.size
  rest : ∀ k, k < w.heap.size → k ≠ p → k ≠ g → v.ownBlock ≠ some k → w'.heap[k]? = w.heap[k]?
  row : KeepsRow w w' 54 v L
  own : ∀ k, v'.ownBlock = some k → v.ownBlock = some k ∨ w.heap.size ≤ k

section
variable {w w' : World} {p g : Nat} {v v' : Value} {L : Nat}
theorem Fr.ofGrown {tP tM tS : TypeId} {b : Nat} {s : St} (h : IsPl tP tM tS w p b g v s) (hg : w.grownBy w' (some g)) (hS : tS ≠ 54) : Fr w w' p g v v L := by
  refine ⟨hg.os, hg.tape, hg.output, hg.size, fun k hk _ h2 _ => hg.block k hk (by intro e; cases e; exact h2 rfl), ?_, fun k e => .inl e⟩
  intro k cs _ hcs
  obtain ⟨cap, cur, _, hgb, _⟩ := h.mem.body
  exact ⟨cs, hcs.grown hg (fun e => by cases e; exact hcs.ne_ hgb (fun e => hS e.symm) rfl), rfl, fun _ _ => rfl⟩
theorem Fr.ofBelow (hB : Below w.heap.size w w') : Fr w w' p g v v L :=
  ⟨hB.os, hB.tape, hB.output, hB.size, fun k hk _ _ _ => hB.block k hk, fun k cs _ hcs => ⟨cs, hcs.below hB hcs.lt, rfl, fun _ _ => rfl⟩, fun k e => .inl e⟩
/-- As a world that is the old one below B. -/
theorem Fr.below {B : Nat} {w0 : World} (h : Fr w w' p g v v' L) (hB : Below B w0 w) (hw : B ≤ w.heap.size) (hp : B ≤ p) (hg : B ≤ g) (hv : ∀ k, v.ownBlock = some k → B ≤ k) : Below B w0 w' :=
  ⟨h.os.trans hB.os, h.tape.trans hB.tape, h.output.trans hB.output, Nat.le_trans hB.size h.size, fun k hk => (h.rest k (by omega) (by omega) (by omega) (fun e => by have := hv k e; omega)).trans (hB.block k hk)⟩
theorem Fr.blk {tP tM tS : TypeId} {b : Nat} {s : St} (h : Fr w w' p g v v' L) (hp : IsPl tP tM tS w p b g v s) {k : Nat} {t : TypeId} {cs : Array Value} (hk : Blk w k t cs) (h1 : t ≠ tP ∨ k ≠ p) (h2 : t ≠ tS ∨ k ≠ g) (h3 : t ≠ 54) : Blk w' k t cs := by
  obtain ⟨cap, cur, _, hgb, _⟩ := hp.mem.body
  obtain ⟨vals, hr, _⟩ := hp.imgs
  refine (h.rest k hk.lt ?_ ?_ (own_blk_ne hr hk (fun e => h3 e.symm))).trans hk
  · rcases h1 with h1 | h1
    · exact hk.ne_ hp.blk h1
    · exact h1
  · rcases h2 with h2 | h2
    · exact hk.ne_ hgb h2
    · exact h2
/-- A row lies on. -/
theorem ownsRow_of {base : Nat} {e : TypeId} {size n : Nat} {u : Value} {xs : List Value} (h : w.ownsRow base e size u n xs) (hk : ∀ k cs, u.ownBlock = some k → Blk w k e cs → ∃ cs', Blk w' k e cs' ∧ cs'.size = cs.size ∧ ∀ j, j < n * size → cs'[j]? = cs[j]?) : w'.ownsRow base e size u n xs := by
  refine ⟨h.1, ?_⟩
  rcases h.2 with h0 | ⟨b, cap, cur, rfl, h1, hb, h2, h3, h4, h5⟩
  · exact .inl h0
  · obtain ⟨cs', a1, a2, a3⟩ := hk b cur (by simp [Value.ownBlock]) hb
    refine .inr ⟨b, cap, cs', rfl, h1, a1, h2, h3, a2.trans h4, ?_⟩
    rw [← h5]
    apply List.ext_getElem?
    intro j
    rcases Nat.lt_or_ge j (n * size) with hj | hj
    · rw [List.getElem?_take_of_lt hj, List.getElem?_take_of_lt hj, Array.getElem?_toList, Array.getElem?_toList]
      exact a3 j hj
    · rw [List.getElem?_take_eq_none hj, List.getElem?_take_eq_none hj]
theorem Fr.texts {tP tM tS : TypeId} {b : Nat} {s : St} (h : Fr w w' p g v v' L) (hp : IsPl tP tM tS w p b g v s) (hP : 9 ≠ tP) (hS : 9 ≠ tS) {u : Value} {I : List ByteArray} (ht : Texts w u I) : Texts w' u I :=
  ownsRow_of ht fun _ cs _ hcs => ⟨cs, h.blk hp hcs (.inl hP) (.inl hS) (by decide), rfl, fun _ _ => rfl⟩
theorem Fr.imgs {tP tM tS : TypeId} {b : Nat} {s : St} (h : Fr w w' p g v v' L) (hp : IsPl tP tM tS w p b g v s) (hP : 9 ≠ tP) (hS : 9 ≠ tS) (hP2 : 54 ≠ tP) (hS2 : 54 ≠ tS) {u : Value} {imgs : List (List ByteArray)}
    (hu : Imgs w u imgs) (hsep : ∀ k, u.ownBlock = some k → v.ownBlock = some k → imgs.length ≤ L) : Imgs w' u imgs := by
  obtain ⟨vals, h1, h2, h3⟩ := hu
  obtain ⟨cap, cur, _, hgb, _⟩ := hp.mem.body
  refine ⟨vals, ownsRow_of h1 fun k cs hk hcs => ?_, h2, fun j x I hx hI => h.texts hp hP hS (h3 j x I hx hI)⟩
  by_cases hv : v.ownBlock = some k
  · obtain ⟨cs', a1, a2, a3⟩ := h.row k cs hv hcs
    exact ⟨cs', a1, a2, fun j hj => a3 j (by have := hsep k hk hv; omega)⟩
  · exact ⟨cs, (h.rest k hcs.lt (hcs.ne_ hp.blk hP2) (hcs.ne_ hgb hS2) hv).trans hcs, rfl, fun _ _ => rfl⟩
theorem Fr.mem {tP tM tS tM2 tS2 : TypeId} {b q b2 g2 : Nat} {s : St} (h : Fr w w' p g v v' L) (hp : IsPl tP tM tS w p b g v s) {M : List Sec} (hm : IsMem tM2 tS2 w b2 g2 M) (h1 : tM2 ≠ tP) (h2 : tM2 ≠ tS) (h3 : tM2 ≠ 54) (h4 : tS2 ≠ tP) (h5 : tS2 ≠ tS ∨ g2 ≠ g) (h6 : tS2 ≠ 54) : IsMem tM2 tS2 w' b2 g2 M := by
  obtain ⟨cap, cur, hb, hgb, hr⟩ := hm.body
  exact ⟨hm.ne, hm.pos, cap, cur, h.blk hp hb (.inl h1) (.inl h2) h3, h.blk hp hgb (.inl h4) h5 h6, hr⟩
end

/-- The plain invariant: n sectors, contents of 64 bytes, at most k images of n texts. -/
structure Sound (n k : Nat) (s : St) : Prop where
  len : s.M.length = n
  fine : Fine s.M
  imgs : s.imgs.length ≤ k
  each : ∀ I ∈ s.imgs, I.length = n
theorem step_imgs (o : PlainOp) (s : St) : (step o s).2.imgs = if o.kind = 7 then s.imgs ++ [s.M.map Sec.now] else s.imgs := by
  unfold step
  by_cases h7 : o.kind = 7
  · simp [h7]
  · simp only [h7, if_false]
    repeat' split
    all_goals rfl
theorem Sound.step {n k : Nat} {s : St} (h : Sound n k s) (o : PlainOp) : Sound n (k + 1) (step o s).2 := by
  refine ⟨(step_len o s).trans h.len, step_fine o s h.fine, ?_, ?_⟩
  · rw [step_imgs]
    split
    · simp; exact h.imgs
    · exact Nat.le_succ_of_le h.imgs
  · rw [step_imgs]
    split
    · intro I hI
      rcases List.mem_append.1 hI with h1 | h1
      · exact h.each I h1
      · simp at h1; subst h1; simp [h.len]
    · exact h.each
theorem Sound.mono {n k k' : Nat} {s : St} (h : Sound n k s) (hk : k ≤ k') : Sound n k' s := ⟨h.len, h.fine, Nat.le_trans h.imgs hk, h.each⟩
/-- A script's end. -/
def runs (ops : List PlainOp) (s : St) : St := ops.foldl (fun s o => (step o s).2) s
theorem runs_snoc (ops : List PlainOp) (o : PlainOp) (s : St) : runs (ops ++ [o]) s = (step o (runs ops s)).2 := by simp [runs]
theorem Sound.runs {n : Nat} : ∀ (ops : List PlainOp) {k : Nat} {s : St}, Sound n k s → Sound n (k + ops.length) (runs ops s)
  | [], _, _, h => h
  | o :: r, k, s, h => by
    have := Sound.runs r (h.step o)
    rw [List.length_cons, show k + (r.length + 1) = k + 1 + r.length from by omega]
    exact this
theorem idxs_none {p : Sec → Bool} {M : List Sec} (h : ∀ s ∈ M, p s = false) : idxs p M = [] := by
  unfold idxs upto
  rw [List.filter_eq_nil_iff]
  intro i hi
  have hi' : i < M.length := by simpa using hi
  have := h _ (List.getElem_mem hi')
  simp [List.getElem?_eq_getElem hi', this]
theorem blank_sound (n : Nat) : Sound n 0 ⟨List.replicate n Sec.blank, []⟩ := by
  refine ⟨by simp, ?_, Nat.le_refl _, fun I hI => by cases hI⟩
  intro s hs
  rw [List.eq_of_mem_replicate hs]
  exact ⟨zeros_size, zeros_size, fun e => by cases e⟩
end Go.Proofs.Ytgieiehpnjhkoaa
