/-
  The plain mathematics of layer 22 (memory): sectors, and how they lie in cells.
-/
import Derived.Test.YtgenifcikfbfhaaKit
namespace Go.Proofs.Ytgenifcikfbfhaa
open Go.RowKit

structure Sec where
  now : ByteArray
  before : ByteArray
  fresh : ByteArray
  dirty : Bool
  worn : Bool

instance : Inhabited Sec := ⟨⟨⟨#[]⟩, ⟨#[]⟩, ⟨#[]⟩, false, false⟩⟩

def secCells (s : Sec) : List Value := [.string s.now, .string s.before, .string s.fresh, .bool s.dirty, .bool s.worn]
def memCells (M : List Sec) : List Value := M.flatMap secCells

theorem memCells_cons (s : Sec) (r : List Sec) : memCells (s :: r) = secCells s ++ memCells r := by simp [memCells]
theorem memCells_app (a b : List Sec) : memCells (a ++ b) = memCells a ++ memCells b := by simp [memCells]
theorem secCells_len (s : Sec) : (secCells s).length = 5 := rfl
theorem memCells_len : ∀ M : List Sec, (memCells M).length = M.length * 5
  | [] => rfl
  | s :: r => by rw [memCells_cons, List.length_append, secCells_len, memCells_len r, List.length_cons]; omega

theorem memCells_at : ∀ (M : List Sec) (i j : Nat) (s : Sec), M[i]? = some s → j < 5 → (memCells M)[i * 5 + j]? = (secCells s)[j]?
  | a :: r, 0, j, s, h, hj => by
    simp at h; subst h
    rw [memCells_cons, Nat.zero_mul, Nat.zero_add, List.getElem?_append_left (by rw [secCells_len]; exact hj)]
  | a :: r, i + 1, j, s, h, hj => by
    have ih := memCells_at r i j s (by simpa using h) hj
    rw [memCells_cons, List.getElem?_append_right (by rw [secCells_len]; omega), secCells_len, show (i + 1) * 5 + j - 5 = i * 5 + j by omega]
    exact ih

theorem memCells_set : ∀ (M : List Sec) (i j : Nat) (s s' : Sec) (v : Value), M[i]? = some s → j < 5 → (secCells s).set j v = secCells s' → (memCells M).set (i * 5 + j) v = memCells (M.set i s')
  | a :: r, 0, j, s, s', v, h, hj, hs => by
    simp at h; subst h
    rw [memCells_cons, Nat.zero_mul, Nat.zero_add, List.set_append_left _ _ (by rw [secCells_len]; exact hj), hs, List.set_cons_zero, memCells_cons]
  | a :: r, i + 1, j, s, s', v, h, hj, hs => by
    have ih := memCells_set r i j s s' v (by simpa using h) hj hs
    rw [memCells_cons, List.set_append_right _ _ (by rw [secCells_len]; omega), secCells_len, show (i + 1) * 5 + j - 5 = i * 5 + j by omega, ih, List.set_cons_succ, memCells_cons]

/-- A memory: a struct behind a pointer to block b, its slice over block g. (tM, tS: the types of the struct and of the sectors.) -/
structure IsMem (tM tS : TypeId) (w : World) (b g : Nat) (M : List Sec) : Prop where
  ne : b ≠ g
  pos : 0 < M.length
  body : ∃ cap cur, Blk w b tM #[.slice (some ⟨g, 0, none⟩) M.length cap] ∧ Blk w g tS cur ∧ M.length ≤ cap ∧ cap ≤ maxLen ∧ cur.size = cap * 5 ∧ cur.toList.take (M.length * 5) = memCells M

section
variable {tM tS : TypeId} {w w' : World} {b g : Nat} {M : List Sec}
theorem IsMem.lt (h : IsMem tM tS w b g M) : b < w.heap.size ∧ g < w.heap.size := by
  obtain ⟨cap, cur, h1, h2, _⟩ := h.body
  exact ⟨h1.lt, h2.lt⟩
theorem IsMem.head (h : IsMem tM tS w b g M) : ∃ cap, w.cell? ⟨b, 0, none⟩ = some (.slice (some ⟨g, 0, none⟩) M.length cap) ∧ M.length ≤ cap ∧ cap ≤ maxLen := by
  obtain ⟨cap, cur, h1, _, h3, h4, _⟩ := h.body
  exact ⟨cap, by rw [h1.cell]; rfl, h3, h4⟩
theorem IsMem.cellAt (h : IsMem tM tS w b g M) {i j : Nat} {s : Sec} (hs : M[i]? = some s) (hj : j < 5) : w.cell? ⟨g, i * 5 + j, none⟩ = (secCells s)[j]? := by
  obtain ⟨cap, cur, _, h2, _, _, h5, h6⟩ := h.body
  have hi := (List.getElem?_eq_some_iff.1 hs).1
  rw [h2.cell, ← memCells_at M i j s hs hj, ← h6, List.getElem?_take_of_lt (by omega), Array.getElem?_toList]
/-- The five cells of a sector. -/
theorem IsMem.sec (h : IsMem tM tS w b g M) {i : Nat} {s : Sec} (hs : M[i]? = some s) :
    w.cell? ⟨g, i * 5, none⟩ = some (.string s.now) ∧ w.cell? ⟨g, i * 5 + 1, none⟩ = some (.string s.before) ∧ w.cell? ⟨g, i * 5 + 2, none⟩ = some (.string s.fresh) ∧ w.cell? ⟨g, i * 5 + 3, none⟩ = some (.bool s.dirty) ∧ w.cell? ⟨g, i * 5 + 4, none⟩ = some (.bool s.worn) :=
  ⟨h.cellAt (j := 0) hs (by omega), h.cellAt (j := 1) hs (by omega), h.cellAt (j := 2) hs (by omega), h.cellAt (j := 3) hs (by omega), h.cellAt (j := 4) hs (by omega)⟩
theorem IsMem.frozen (h : IsMem tM tS w b g M) (k : Nat) : w.frozen? ⟨g, k, none⟩ = false := by
  obtain ⟨cap, cur, _, h2, _⟩ := h.body
  exact h2.frozen k
theorem IsMem.store (h : IsMem tM tS w b g M) {i j : Nat} {s s' : Sec} {v : Value} (hs : M[i]? = some s) (hj : j < 5) (hv : (secCells s).set j v = secCells s') : IsMem tM tS (w.setCell ⟨g, i * 5 + j, none⟩ v) b g (M.set i s') := by
  obtain ⟨cap, cur, h1, h2, h3, h4, h5, h6⟩ := h.body
  have hi := (List.getElem?_eq_some_iff.1 hs).1
  refine ⟨h.ne, by rw [List.length_set]; exact h.pos, cap, _, ?_, h2.set_ (i * 5 + j) v, by rw [List.length_set]; exact h3, h4, by rw [Array.size_setIfInBounds]; exact h5, ?_⟩
  · rw [List.length_set]; exact h1.other (a := ⟨g, i * 5 + j, none⟩) h.ne v
  · rw [List.length_set, Array.toList_setIfInBounds, List.take_set, h6, memCells_set M i j s s' v hs hj hv]
theorem IsMem.grown {row : Option Nat} (h : IsMem tM tS w b g M) (hg : w.grownBy w' row) (h1 : some b ≠ row) (h2 : some g ≠ row) : IsMem tM tS w' b g M := by
  obtain ⟨cap, cur, k1, k2, k3⟩ := h.body
  exact ⟨h.ne, h.pos, cap, cur, k1.grown hg h1, k2.grown hg h2, k3⟩
theorem IsMem.below (h : IsMem tM tS w b g M) {B : Nat} (hb : Below B w w') (h1 : b < B) (h2 : g < B) : IsMem tM tS w' b g M := by
  obtain ⟨cap, cur, k1, k2, k3⟩ := h.body
  exact ⟨h.ne, h.pos, cap, cur, k1.below hb h1, k2.below hb h2, k3⟩
end

theorem grown_set (w : World) (g k : Nat) (v : Value) : w.grownBy (w.setCell ⟨g, k, none⟩ v) (some g) :=
  ⟨rfl, rfl, rfl, by simp [World.setCell], fun j _ hne => Below.heap_setCell w ⟨g, k, none⟩ v j (fun e => hne (by rw [e]))⟩
theorem grown_trans {a b c : World} {row : Option Nat} (h : a.grownBy b row) (k : b.grownBy c row) : a.grownBy c row :=
  ⟨k.os.trans h.os, k.tape.trans h.tape, k.output.trans h.output, Nat.le_trans h.size k.size, fun j hj hne => (k.block j (Nat.lt_of_lt_of_le hj h.size) hne).trans (h.block j hj hne)⟩
theorem grown_drewN (w : World) (n : Nat) (row : Option Nat) : w.grownBy (w.drewN n) row := ⟨rfl, rfl, rfl, Nat.le_refl _, fun _ _ _ => rfl⟩
theorem grown_refl (w : World) (row : Option Nat) : w.grownBy w row := ⟨rfl, rfl, rfl, Nat.le_refl _, fun _ _ _ => rfl⟩
theorem grown_alloc (w : World) (o : Obj) (row : Option Nat) : w.grownBy (w.alloc o) row := World.grownBy_alloc w o row
theorem grown_below {B : Nat} {w w' : World} (h : Below B w w') (hB : w.heap.size ≤ B) (row : Option Nat) : w.grownBy w' row :=
  ⟨h.os, h.tape, h.output, h.size, fun k hk _ => h.block k (by omega)⟩
theorem below_grown {w w' : World} (h : w.grownBy w' none) : Below w.heap.size w w' := ⟨h.os, h.tape, h.output, h.size, fun k hk => h.block k hk (by simp)⟩
end Go.Proofs.Ytgenifcikfbfhaa
