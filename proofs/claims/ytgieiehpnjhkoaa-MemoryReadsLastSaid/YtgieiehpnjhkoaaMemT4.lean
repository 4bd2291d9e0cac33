/-
  Layer 22 (memory): a player in memory.
-/
import Derived.Test.YtgieiehpnjhkoaaMemT3
namespace Go.Proofs.Ytgieiehpnjhkoaa
open Go.RowKit Go.Shelf

/-- A list of lists of texts. -/
def Imgs (w : World) (v : Value) (imgs : List (List ByteArray)) : Prop :=
  ∃ vals, w.ownsRow 0 54 1 v imgs.length vals ∧ vals.length = imgs.length ∧ ∀ (j : Nat) (u : Value) (I : List ByteArray), vals[j]? = some u → imgs[j]? = some I → Texts w u I

theorem Texts.kept {w w' : World} {v : Value} {I : List ByteArray} {row : Option Nat} (h : Texts w v I) (hg : w.grownBy w' row) (hne : ∀ k t cs, row = some k → Blk w k t cs → t ≠ 9) : Texts w' v I := by
  refine World.ownsRow.kept h hg ?_
  rcases h.2 with ⟨rfl, _⟩ | ⟨gb, cap, cur, rfl, _, hb, _⟩
  · exact .inl rfl
  · refine .inr fun e => ?_
    exact hne gb _ _ e.symm hb rfl
theorem Imgs.kept {w w' : World} {v : Value} {imgs : List (List ByteArray)} {row : Option Nat} (h : Imgs w v imgs) (hg : w.grownBy w' row) (hne : ∀ k t cs, row = some k → Blk w k t cs → t ≠ 9 ∧ t ≠ 54) : Imgs w' v imgs := by
  obtain ⟨vals, h1, h2, h3⟩ := h
  refine ⟨vals, h1.kept hg ?_, h2, fun j u I hu hI => (h3 j u I hu hI).kept hg (fun k t cs e hb => (hne k t cs e hb).1)⟩
  rcases h1.2 with ⟨rfl, _⟩ | ⟨gb, cap, cur, rfl, _, hb, _⟩
  · exact .inl rfl
  · refine .inr fun e => ?_
    exact (hne gb _ _ e.symm hb).2 rfl
theorem Imgs.below {w w' : World} {v : Value} {imgs : List (List ByteArray)} (h : Imgs w v imgs) (hB : Below w.heap.size w w') : Imgs w' v imgs :=
  h.kept (grown_below hB (Nat.le_refl _) none) (fun k t cs e => by cases e)

/-- A player: block p; its memory behind b and g. -/
structure IsPl (tP tM tS : TypeId) (w : World) (p b g : Nat) (v : Value) (s : St) : Prop where
  blk : Blk w p tP #[.pointer (some ⟨b, 0, none⟩), v]
  mem : IsMem tM tS w b g s.M
  imgs : Imgs w v s.imgs

/-- Behind a turn of the sectors. -/
theorem IsPl.turn {tP tM tS : TypeId} {w w' : World} {p b g : Nat} {v : Value} {s : St} {M' : List Sec} (h : IsPl tP tM tS w p b g v s) (hg : w.grownBy w' (some g)) (hM : IsMem tM tS w' b g M') (h1 : tP ≠ tS) (h2 : tS ≠ 9) (h3 : tS ≠ 54) :
    IsPl tP tM tS w' p b g v { s with M := M' } := by
  obtain ⟨cap, cur, _, hgb, _⟩ := h.mem.body
  refine ⟨h.blk.grown hg (fun e => h.blk.ne_ hgb h1 (by cases e; rfl)), hM, h.imgs.kept hg (fun k t cs e hb => ?_)⟩
  cases e
  have e2 : t = tS := by
    have := hb.symm.trans hgb
    simp at this
    exact this.2
  subst e2
  exact ⟨h2, h3⟩
/-- Behind what writes nothing that lay. -/
theorem IsPl.below {tP tM tS : TypeId} {w w' : World} {p b g : Nat} {v : Value} {s : St} (h : IsPl tP tM tS w p b g v s) (hB : Below w.heap.size w w') : IsPl tP tM tS w' p b g v s :=
  ⟨h.blk.below hB h.blk.lt, h.mem.below hB h.mem.lt.1 h.mem.lt.2, h.imgs.below hB⟩
end Go.Proofs.Ytgieiehpnjhkoaa
