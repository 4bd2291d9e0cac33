/-
  Layer 22 (memory): indices, Dirty, Worn.
-/
import Derived.Test.YtgenifcikfbfhaaMemW5
import Derived.RangeFuncBox
import Derived.OwnWalkIn
namespace Go.Proofs.Ytgenifcikfbfhaa
open Go.RowKit Go.Shelf
attribute [local go_sem] Oper.semAt_some

/-- Numbers as cells. -/
def intCells (l : List Nat) : List Value := l.map fun i : Nat => Value.int .i64 i
theorem intCells_snoc (l : List Nat) (x : Nat) : intCells (l ++ [x]) = intCells l ++ [.int .i64 x] := by simp [intCells]

theorem upto_len (P0 : Nat → Bool) : ∀ k, (upto P0 k).length ≤ k
  | 0 => Nat.le_refl _
  | k + 1 => by
    have := upto_len P0 k
    cases h : P0 k
    · rw [upto_no P0 k h]; omega
    · rw [upto_yes P0 k h]; simp; omega

theorem infoInt : (Try.prog.info? 3).map (fun i => (i.zero, i.size, i.bytes)) = some (some (.int .i64 0), 1, 8) := by kernel_rfl

/-- A fresh list of numbers. -/
def NewInts (w w' : World) (v : Value) (l : List Nat) : Prop := w'.ownsRow w.heap.size 3 1 v l.length (intCells l) ∧ (v = .slice none 0 0 ↔ l = []) ∧ Below w.heap.size w w'

/-- A box lies on behind an append into another one. -/
theorem boxed_past {W w1 : World} {B B' : Nat} {t e : TypeId} {u v : Value} {n₀ size k : Nat} {xs : List Value} {tmp : Obj} (h : Boxed W B' t u) (hte : t ≠ e) (hrow : W.ownsRow n₀ e size v k xs)
    (hgrow : (W.alloc tmp).grownBy w1 v.ownBlock) (hne : B' ≠ B) (v' : Value) : Boxed (w1.setCell ⟨B, 0, none⟩ v') B' t u :=
  ((h.alloc tmp).kept hgrow (h.not_row hte hrow)).kept (grownBy_setCell' w1 B v') (fun e => hne (by cases e; rfl))

section
variable {w : World} {b g : Nat} {M : List Sec}

/-- What the loop of indices keeps. -/
def Gather (w : World) (b g : Nat) (M : List Sec) (fi : Nat) (pre : List Nat) (W : World) : Prop :=
  (∃ v, Boxed W w.heap.size 25 v ∧ W.ownsRow w.heap.size 3 1 v pre.length (intCells pre) ∧ (v = .slice none 0 0 ↔ pre = [])) ∧
    Boxed W (w.heap.size + 1) 60 (.pointer (some ⟨b, 0, none⟩)) ∧ Boxed W (w.heap.size + 2) 78 (.func (.func fi) #[] #[]) ∧ PMem W b g M ∧ Below w.heap.size w W

theorem gather_own (fi : Nat) (hb : b < w.heap.size) (hg : g < w.heap.size) : OwnFrom (w.heap.size + 3) (Gather w b g M fi) := by
  rintro pre W W' row ⟨⟨v, h1, h2, h3⟩, h4, h5, h6, h7⟩ hgr hr
  refine ⟨⟨v, h1.kept hgr ?_, h2.kept hgr ?_, h3⟩, h4.kept hgr ?_, h5.kept hgr ?_, h6.grown hgr ?_ ?_, h7.grown hgr h7.size ?_⟩
  · intro e; have := (hr _ e.symm).1; omega
  · rcases h2.2 with ⟨rfl, _⟩ | ⟨g, cap, cur, rfl, _, hgb, _⟩
    · exact .inl rfl
    · refine .inr fun e' => ?_
      obtain ⟨o, ho, hc⟩ := (hr g (by simpa [Value.ownBlock] using e'.symm)).2
      rw [hgb] at ho; cases ho; cases hc
  · intro e; have := (hr _ e.symm).1; omega
  · intro e; have := (hr _ e.symm).1; omega
  · intro e; have := (hr _ e.symm).1; omega
  · intro e; have := (hr _ e.symm).1; omega
  · intro j e; have := (hr j e).1; omega

theorem gather_sees (fi : Nat) (p : Sec → Bool) (pre : List Nat) (W : World) (h : Gather w b g M fi pre W) : Sees b g (w.heap.size + 1) (w.heap.size + 2) fi M.length p (fun i => ((M[i]?).map p).getD false) pre W :=
  ⟨M, h.2.2.2.1, rfl, h.2.1.cell, h.2.2.1.cell, fun i s _ hs => by simp [hs]⟩

end
end Go.Proofs.Ytgenifcikfbfhaa
