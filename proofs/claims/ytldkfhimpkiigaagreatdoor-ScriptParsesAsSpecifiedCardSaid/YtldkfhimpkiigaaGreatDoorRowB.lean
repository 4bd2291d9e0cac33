/-
  Rows of any elements that the call owns: append, also where it stands alone in a region that draws its order.
-/
import Derived.Test.YtldkfhimpkiigaaGreatDoorKit
import Derived.Laws.AppendOwn
import Derived.Laws.OwnMore
import Derived.Below
import Derived.OwnWalk
namespace Go.Proofs.YtldkfhimpkiigaaGreatDoor
open Go.RowKit
theorem hgrown_tr {a b c : World} {row : Option Nat} (h : a.grownBy b row) (k : b.grownBy c row) : a.grownBy c row :=
  ⟨k.os.trans h.os, k.tape.trans h.tape, k.output.trans h.output, Nat.le_trans h.size k.size, fun j hj hne => (k.block j (Nat.lt_of_lt_of_le hj h.size) hne).trans (h.block j hj hne)⟩
theorem hgrownB {B : Nat} {w w' : World} (h : Below B w w') (hB : w.heap.size ≤ B) (row : Option Nat) : w.grownBy w' row :=
  ⟨h.os, h.tape, h.output, h.size, fun j hj _ => h.block j (Nat.lt_of_lt_of_le hj hB)⟩
/-- What an append leaves. -/
structure HPushed (w w' : World) (base : Nat) (el : TypeId) (k : Nat) (v v' : Value) (n : Nat) (xs : List Value) : Prop where
  row : w'.ownsRow base el k v' n xs
  grown : w.grownBy w' v.ownBlock
  bel : ∀ B w0, B ≤ base → base ≤ w.heap.size → Below B w0 w → Below B w0 w'
/-- Rows of elements of two kinds lie apart. -/
theorem own_own_ne {w : World} {base base' : Nat} {e e' : TypeId} {k k' n n' : Nat} {v v' : Value} {xs xs' : List Value} (h : w.ownsRow base e k v n xs) (h' : w.ownsRow base' e' k' v' n' xs') (hne : e ≠ e') : v.ownBlock = none ∨ v.ownBlock ≠ v'.ownBlock := by
  rcases h.2 with ⟨rfl, _⟩ | ⟨g, cap, cur, rfl, _, hg, _⟩
  · exact .inl rfl
  · right
    rcases h'.2 with ⟨rfl, _⟩ | ⟨g', cap', cur', rfl, _, hg', _⟩
    · simp [Value.ownBlock]
    · intro e0
      simp only [Value.ownBlock, Option.some.injEq] at e0
      subst e0
      rw [hg] at hg'
      cases hg'
      exact hne rfl
theorem own_more {w : World} {base base' : Nat} {e : TypeId} {k n : Nat} {v : Value} {xs : List Value} (h : w.ownsRow base e k v n xs) (hle : base' ≤ base) : w.ownsRow base' e k v n xs := by
  refine ⟨h.1, ?_⟩
  rcases h.2 with h2 | ⟨g, cap, cur, hv, hg, r⟩
  · exact .inl h2
  · exact .inr ⟨g, cap, cur, hv, Nat.le_trans hle hg, r⟩
section
variable {w : World}
theorem wp_gcat_op {o : Oper} {a : Act} {K : Act → World → Prop} {Q : Exit → Act → World → Prop} (t el : TypeId) (z : Value) (k by' : Nat) (ht : Tryz.prog.underlying t = some (.slice el)) (hinfo : (Tryz.prog.info? el).map (fun i => (i.zero, i.size, i.bytes)) = some (some z, k, by')) (hzs : z.cells.size = k) (hk : 0 < k) (hby : by' ≤ 10000)
    (d s : Operand) (ho : o.op = .call { callee := .builtin .append, args := #[d, s], argTypes := #[t, t] }) (base : Nat) (v : Value) (n : Nat) (xs : List Value) (hd : a.eval d = v) (hrow : w.ownsRow base el k v n xs)
    (g m c : Nat) (news : List Value) (hs : a.eval s = .slice (some ⟨g, 0, none⟩) m c) (hl : news.length = m * k) (hnews : Blk w g el news.toArray) (h1 : ∀ u ∈ news, u.oneCell' = true) (hlen : n + m ≤ 1000000000) (hb : base ≤ w.heap.size)
    (h : ∀ v' w', HPushed w w' base el k v v' (n + m) (xs ++ news) → K (a.put o.dst v') w') : o.wp Tryz.prog a w K Q := by
  obtain ⟨i0, hi, hz0, hz1, hz2⟩ := info_parts hinfo
  have hmul : (n + m) * by' ≤ 1000000000 * 10000 := Nat.mul_le_mul hlen hby
  refine wp_append_own w d s t ho base el i0 z k by' ht hi hz0 hz1 hz2 hzs hk v n xs hd hrow ⟨g, 0, none⟩ m c news hs hl (news_cells hnews) h1 (by unfold maxLen; omega) (by omega) hb ?_
  intro v' w' h2 h3 _
  exact h v' w' ⟨h2, h3, fun B w0 hB hb2 hBel => hBel.grown h3 (Nat.le_trans hB hb2) (fun j e => Nat.le_trans hB (hrow.lt j e).1)⟩
theorem wp_gpush_list {ops : Array Oper} {rest : List Oper} {o : Oper} {a : Act} {Q : Exit → Act → World → Prop} {w0 : World} (t el : TypeId) (z : Value) (k by' : Nat) (ht : Tryz.prog.underlying t = some (.slice el)) (hinfo : (Tryz.prog.info? el).map (fun i => (i.zero, i.size, i.bytes)) = some (some z, k, by')) (hzs : z.cells.size = k) (hk : 0 < k) (hby : by' ≤ 10000)
    (hgd : o.guard = none) (d s : Operand) (ho : o.op = .call { callee := .builtin .append, args := #[d, s], argTypes := #[t, t] }) (base : Nat) (v : Value) (n : Nat) (xs : List Value) (hd : a.eval d = v) (hrow : w0.ownsRow base el k v n xs)
    (m c : Nat) (news : Array Value) (hs : a.eval s = .slice (some ⟨w0.heap.size, 0, none⟩) m c) (hl : news.size = m * k) (h1 : ∀ u ∈ news.toList, u.oneCell' = true) (hlen : n + m ≤ 1000000000) (hb : base ≤ w0.heap.size)
    (h : ∀ v' w', HPushed w0 w' base el k v v' (n + m) (xs ++ news.toList) → wpList Tryz.prog ops Q rest (a.put o.dst v') w') : wpList Tryz.prog ops Q (o :: rest) a (w0.alloc (.cells news el)) := by
  obtain ⟨i0, hi, hz0, hz1, hz2⟩ := info_parts hinfo
  have hmul : (n + m) * by' ≤ 1000000000 * 10000 := Nat.mul_le_mul hlen hby
  have hr2 : (w0.alloc (.cells news el)).ownsRow base el k v n xs := World.ownsRow.alloc hrow _
  have hsz : (w0.alloc (.cells news el)).heap.size = w0.heap.size + 1 := by rw [World.size_alloc]
  refine wpList_append_own _ hgd d s t ho base el i0 z k by' ht hi hz0 hz1 hz2 hzs hk v n xs hd hr2 ⟨w0.heap.size, 0, none⟩ m c news.toList hs (by rw [Array.length_toList]; exact hl) ?_ h1 (by unfold maxLen; omega) (by omega) (by rw [hsz]; omega) ?_
  · intro j u hj
    have hB := Blk.new w0 el news
    rw [Addr.add_lit, Nat.zero_add, hB.cell j, ← hj, Array.getElem?_toList]
  · intro v' w' h2 h3 _
    refine h v' w' ⟨h2, hgrown_tr (hgrownB ((Below.refl _ w0).alloc (Nat.le_refl _) _) (Nat.le_refl _) v.ownBlock) h3, fun B w1 hB hb2 hBel => ?_⟩
    exact (hBel.alloc (Nat.le_trans hB hb2) _).grown h3 (by rw [hsz]; omega) (fun j e => Nat.le_trans hB (hrow.lt j e).1)
end
end Go.Proofs.YtldkfhimpkiigaaGreatDoor
