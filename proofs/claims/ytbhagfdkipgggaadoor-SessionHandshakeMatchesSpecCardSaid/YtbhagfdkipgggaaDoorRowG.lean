/-
  Rows of any elements that the call owns: append.
-/
import Derived.Test.YtbhagfdkipgggaaDoorMB
namespace Go.Proofs.YtbhagfdkipgggaaDoor
open Go.RowKit Go.Shelf
/-- What an append leaves. -/
structure GPushed (w w' : World) (base : Nat) (el : TypeId) (k : Nat) (v v' : Value) (n : Nat) (xs : List Value) : Prop where
  row : w'.ownsRow base el k v' n xs
  grown : w.grownBy w' v.ownBlock
  bel : ∀ B w0, B ≤ base → base ≤ w.heap.size → Below B w0 w → Below B w0 w'
  none : v' = .slice none 0 0 → v = .slice none 0 0
section
variable {w : World} {ops : Array Oper} {rest : List Oper} {o : Oper} {a : Act} {Q : Exit → Act → World → Prop}
/-- append of elements that lie somewhere. -/
theorem wp_gcat (t el : TypeId) (z : Value) (k by' : Nat) (ht : Tryd.prog.underlying t = some (.slice el)) (hinfo : (Tryd.prog.info? el).map (fun i => (i.zero, i.size, i.bytes)) = some (some z, k, by')) (hzs : z.cells.size = k) (hk : 0 < k) (hby : by' ≤ 10000)
    (hgd : o.guard = none) (d s : Operand) (ho : o.op = .call { callee := .builtin .append, args := #[d, s], argTypes := #[t, t] }) (base : Nat) (v : Value) (n : Nat) (xs : List Value) (hd : a.eval d = v) (hrow : w.ownsRow base el k v n xs)
    (ad : Addr) (m c : Nat) (news : List Value) (hs : a.eval s = .slice (some ad) m c) (hl : news.length = m * k) (hnews : ∀ j u, news[j]? = some u → w.cell? (ad.add j) = some u) (h1 : ∀ u ∈ news, u.oneCell' = true) (hlen : n + m ≤ 1000000) (hb : base ≤ w.heap.size)
    (h : ∀ v' w', GPushed w w' base el k v v' (n + m) (xs ++ news) → wpList Tryd.prog ops Q rest (a.put o.dst v') w') : wpList Tryd.prog ops Q (o :: rest) a w := by
  obtain ⟨i0, hi, hz0, hz1, hz2⟩ := info_parts hinfo
  have hmul : (n + m) * by' ≤ 1000000 * 10000 := Nat.mul_le_mul hlen hby
  refine wpList_append_own w hgd d s t ho base el i0 z k by' ht hi hz0 hz1 hz2 hzs hk v n xs hd hrow ad m c news hs hl hnews h1 (by unfold maxLen; omega) (by omega) hb ?_
  intro v' w' h2 h3 h4
  exact h v' w' ⟨h2, h3, fun B w0 hB hb2 hBel => hBel.grown h3 (Nat.le_trans hB hb2) (fun j e => Nat.le_trans hB (hrow.lt j e).1), fun e => (h4.1 e).1⟩
/-- append of elements whose row has just been made. -/
theorem wp_gpush {w0 : World} (t el : TypeId) (z : Value) (k by' : Nat) (ht : Tryd.prog.underlying t = some (.slice el)) (hinfo : (Tryd.prog.info? el).map (fun i => (i.zero, i.size, i.bytes)) = some (some z, k, by')) (hzs : z.cells.size = k) (hk : 0 < k) (hby : by' ≤ 10000)
    (hgd : o.guard = none) (d s : Operand) (ho : o.op = .call { callee := .builtin .append, args := #[d, s], argTypes := #[t, t] }) (base : Nat) (v : Value) (n : Nat) (xs : List Value) (hd : a.eval d = v) (hrow : w0.ownsRow base el k v n xs)
    (m c : Nat) (news : Array Value) (hs : a.eval s = .slice (some ⟨w0.heap.size, 0, none⟩) m c) (hl : news.size = m * k) (h1 : ∀ u ∈ news.toList, u.oneCell' = true) (hlen : n + m ≤ 1000000) (hb : base ≤ w0.heap.size)
    (h : ∀ v' w', GPushed w0 w' base el k v v' (n + m) (xs ++ news.toList) → wpList Tryd.prog ops Q rest (a.put o.dst v') w') : wpList Tryd.prog ops Q (o :: rest) a (w0.alloc (.cells news el)) := by
  refine wp_gcat t el z k by' ht hinfo hzs hk hby hgd d s ho base v n xs hd (World.ownsRow.alloc hrow _) ⟨w0.heap.size, 0, none⟩ m c news.toList hs (by rw [Array.length_toList]; exact hl) (fun j u hj => ?_) h1 hlen (by rw [World.size_alloc]; omega) (fun v' w' hP => ?_)
  · have hB := Blk.new w0 el news
    rw [Addr.add_lit, Nat.zero_add, hB.cell j, ← hj, Array.getElem?_toList]
  · refine h v' w' ⟨hP.row, ?_, fun B w1 hB hb2 hBel => hP.bel B w1 hB (by rw [World.size_alloc]; omega) (hBel.alloc (Nat.le_trans hB hb2) _), hP.none⟩
    exact grown_tr (grownB ((Below.refl _ w0).alloc (Nat.le_refl _) _) (Nat.le_refl _) v.ownBlock) hP.grown
/-- append of nothing. -/
theorem run_append_zero (P : Program) (w : World) (t ty e : TypeId) (i : TypeInfo) (ht : P.underlying t = some (.slice e)) (hi : P.info? e = some i) (A : Option Addr) (n c c' : Nat) (hn : n ≤ c) :
    (Builtin.append_ #[t, t] ty #[.slice A n c, .slice none 0 c']).run P w = .ok (.slice A n c) w := by
  cases A <;> simp [Builtin.append_, run_underlying ht, sizeOf, typeInfo, hi, Builtin.lenOf, hn, run_firstCells_none, storeCells]
/-- append of elements that lie somewhere, if there are any. -/
theorem wp_gcat_any (t el : TypeId) (z : Value) (k by' : Nat) (ht : Tryd.prog.underlying t = some (.slice el)) (hinfo : (Tryd.prog.info? el).map (fun i => (i.zero, i.size, i.bytes)) = some (some z, k, by')) (hzs : z.cells.size = k) (hk : 0 < k) (hby : by' ≤ 10000)
    (hgd : o.guard = none) (d s : Operand) (ho : o.op = .call { callee := .builtin .append, args := #[d, s], argTypes := #[t, t] }) (base : Nat) (v : Value) (n : Nat) (xs : List Value) (hd : a.eval d = v) (hrow : w.ownsRow base el k v n xs)
    (A : Option Addr) (m c : Nat) (news : List Value) (hs : a.eval s = .slice A m c) (hl : news.length = m * k) (hA : A = none → m = 0) (hnews : ∀ ad, A = some ad → ∀ j u, news[j]? = some u → w.cell? (ad.add j) = some u) (h1 : ∀ u ∈ news, u.oneCell' = true) (hlen : n + m ≤ 1000000) (hb : base ≤ w.heap.size)
    (h : ∀ v' w', GPushed w w' base el k v v' (n + m) (xs ++ news) → wpList Tryd.prog ops Q rest (a.put o.dst v') w') : wpList Tryd.prog ops Q (o :: rest) a w := by
  cases A with
  | some ad => exact wp_gcat t el z k by' ht hinfo hzs hk hby hgd d s ho base v n xs hd hrow ad m c news hs hl (hnews ad rfl) h1 hlen hb h
  | none =>
    obtain rfl := hA rfl
    have hnil : news = [] := List.eq_nil_of_length_eq_zero (by rw [hl, Nat.zero_mul])
    subst hnil
    rw [Nat.add_zero, List.append_nil] at h
    obtain ⟨i0, hi, _, _, _⟩ := info_parts hinfo
    obtain ⟨A2, c2, hv, hc⟩ : ∃ A2 c2, v = .slice A2 n c2 ∧ n ≤ c2 := by
      rcases hrow.2 with ⟨hv, h0⟩ | ⟨g, cap, cur, hv, _, _, hnc, _⟩
      · exact ⟨none, 0, by rw [hv, h0], by omega⟩
      · exact ⟨_, _, hv, hnc⟩
    subst hv
    exact wpList_append_run hgd d s t t ho _ _ hd hs (run_append_zero Tryd.prog w t o.type el i0 ht hi A2 n c2 c hc) (h _ _ ⟨hrow, grownB (Below.refl _ w) (Nat.le_refl _) _, fun B w0 _ _ hBel => hBel, fun e => e⟩)
end
end Go.Proofs.YtbhagfdkipgggaaDoor
