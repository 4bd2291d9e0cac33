/-
  A row that the call owns, to which another row is appended, wherever that one lies, empty or not; rows owned as rows that lie somewhere.
-/
import Derived.Test.YtldkfhimpkiigaaGreatDoorScrW4
import Derived.Test.YtldkfhimpkiigaaGreatDoorRowB
import Derived.Test.YtldkfhimpkiigaaGreatDoorRegionChains
namespace Go.Proofs.YtldkfhimpkiigaaGreatDoor
open Go.RowKit ScrP

theorem info_of {P : Program} {e : TypeId} {z : Value} {s b : Nat} (h : (P.info? e).map (fun i => (i.zero, i.size, i.bytes)) = some (some z, s, b)) : ∃ i, P.info? e = some i ∧ i.zero = some z ∧ i.size = s ∧ i.bytes = b := by
  cases hi : P.info? e with
  | none => rw [hi] at h; simp at h
  | some i => rw [hi] at h; simp at h; exact ⟨i, rfl, h.1, h.2.1, h.2.2⟩
/-- Nothing is appended, whatever the capacity that the nil slice is told to have. -/
theorem run_append_none {P : Program} {w : World} {base : Nat} {t ty e : TypeId} {i : TypeInfo} {size c : Nat} (ht : P.underlying t = some (.slice e)) (hi : P.info? e = some i)
    {v : Value} {n : Nat} {xs : List Value} (hown : w.ownsRow base e size v n xs) : (Builtin.append_ #[t, t] ty #[v, .slice none 0 c]).run P w = .ok v w := by
  rcases hown.2 with ⟨rfl, rfl⟩ | ⟨g, cap, cur, rfl, _, _, hnc, _⟩
  · simp [Builtin.append_, run_underlying ht, sizeOf, typeInfo, hi, Builtin.lenOf, Builtin.firstCells]
  · simp [Builtin.append_, run_underlying ht, sizeOf, typeInfo, hi, Builtin.lenOf, Builtin.firstCells, hnc, storeCells]
theorem wp_cat_row {w : World} {o : Oper} {a : Act} {K : Act → World → Prop} {Q : Exit → Act → World → Prop} (t el : TypeId) (z : Value) (k by' : Nat) (ht : Tryz.prog.underlying t = some (.slice el)) (hinfo : (Tryz.prog.info? el).map (fun i => (i.zero, i.size, i.bytes)) = some (some z, k, by')) (hzs : z.cells.size = k) (hk : 0 < k) (hby : by' ≤ 10000)
    (d s : Operand) (ho : o.op = .call { callee := .builtin .append, args := #[d, s], argTypes := #[t, t] }) (base : Nat) {v : Value} (n : Nat) (xs : List Value) (hd : a.eval d = v) (hrow : w.ownsRow base el k v n xs)
    {u : Value} (hs : a.eval s = u) {B m : Nat} {news : List Value} (hu : RowAt w B u m news) (hl : news.length = m * k) (h1 : ∀ u ∈ news, u.oneCell' = true) (hlen : n + m ≤ 1000000000) (hb : base ≤ w.heap.size)
    (h : ∀ v' w', w'.ownsRow base el k v' (n + m) (xs ++ news) → w.grownBy w' v.ownBlock → (∀ B w0, B ≤ base → Below B w0 w → Below B w0 w') → K (a.put o.dst v') w') : o.wp Tryz.prog a w K Q := by
  obtain ⟨i0, hi, hz0, hz1, hz2⟩ := info_of hinfo
  have hmul : (n + m) * by' ≤ 1000000000 * 10000 := Nat.mul_le_mul hlen hby
  obtain ⟨A, c, rfl, hA⟩ := hu
  cases A with
  | none =>
    have hm : m = 0 := by
      rcases Nat.eq_zero_or_pos m with h0 | h0
      · exact h0
      · obtain ⟨_, _, e, _⟩ := hA h0
        cases e
    subst hm
    obtain rfl : news = [] := List.eq_nil_of_length_eq_zero (by rw [hl, Nat.zero_mul])
    have hr := run_append_none (ty := o.type) (c := c) ht hi hrow
    unfold Oper.wp execOp
    simp only [ho, resolve, invoke, builtin, Sem.run_bind, Sem.run_pure, Result.andThen_ok, List.map_toArray, List.map_cons, List.map_nil, hd, hs, hr]
    exact h v w (by rw [List.append_nil]; exact hrow) ⟨rfl, rfl, rfl, Nat.le_refl _, fun _ _ _ => rfl⟩ (fun _ _ _ h => h)
  | some ad =>
    refine wp_append_own w d s t ho base el i0 z k by' ht hi hz0 hz1 hz2 hzs hk v n xs hd hrow ad m c news hs hl ?_ h1 (by unfold maxLen; omega) (by omega) hb ?_
    · intro j u hj
      rcases Nat.eq_zero_or_pos m with h0 | h0
      · subst h0
        rw [Nat.zero_mul] at hl
        rw [List.eq_nil_of_length_eq_zero hl] at hj
        cases hj
      · obtain ⟨b, o', e, _, hc⟩ := hA h0
        cases e
        rw [Addr.add_lit]
        exact hc j u hj
    · intro v' w' h2 h3 _
      exact h v' w' h2 h3 (fun B w0 hB hBel => hBel.grown h3 (Nat.le_trans hB hb) (fun j e => Nat.le_trans hB (hrow.lt j e).1))
/-- A row that the call owns, as a row that lies somewhere. -/
theorem own_rowAt {w : World} {B k n : Nat} {e : TypeId} {v : Value} {xs : List Value} (h : w.ownsRow B e k v n xs) (_hB : B ≤ w.heap.size) : RowAt w w.heap.size v n xs := by
  rcases h.2 with ⟨rfl, rfl⟩ | ⟨g, cap, cur, rfl, _⟩
  · exact ⟨none, 0, rfl, fun h => absurd h (by decide)⟩
  · refine ⟨_, _, rfl, fun _ => ⟨g, 0, rfl, (h.lt g rfl).2, fun j x hj => ?_⟩⟩
    have := h.cells (g := g) rfl j x hj
    rw [Addr.add_lit] at this
    exact this
/-- How far a chain has come that makes an empty row and appends to it: slots, lengths, cells. -/
def Stage (a : Act) (w : World) (g : Nat) (el : TypeId) (k : Nat) (l : List (Nat × Nat × List Value)) (n : Nat) : Prop :=
  n = 0 ∨ ∃ x, l[n - 1]? = some x ∧ w.ownsRow g el k (a.eval (.tmp x.1)) x.2.1 x.2.2
/-- Another slot is written, the world grows elsewhere. -/
theorem Stage.other {a : Act} {w w' : World} {g : Nat} {el : TypeId} {k : Nat} {l : List (Nat × Nat × List Value)} {n : Nat} (h : Stage a w g el k l n) {d : Nat} {v : Value} (hd : (l.all fun x => !(d == x.1)) = true)
    (hw : ∀ v n xs, w.ownsRow g el k v n xs → w'.ownsRow g el k v n xs) : Stage (a.put (some d) v) w' g el k l n := by
  rcases h with h | ⟨x, hx, hr⟩
  · exact .inl h
  · refine .inr ⟨x, hx, ?_⟩
    have := List.all_eq_true.1 hd x (List.mem_of_getElem? hx)
    rw [Chains.eval_other (by simpa using this)]
    exact hw _ _ _ hr
theorem Stage.get {a : Act} {w : World} {g : Nat} {el : TypeId} {k : Nat} {l : List (Nat × Nat × List Value)} {n : Nat} {x : Nat × Nat × List Value} (h : Stage a w g el k l (n + 1)) (hx : l[n]? = some x) : w.ownsRow g el k (a.eval (.tmp x.1)) x.2.1 x.2.2 := by
  rcases h with h | ⟨y, hy, hr⟩
  · cases h
  · rw [Nat.add_sub_cancel, hx] at hy
    cases hy
    exact hr
theorem three {E : List (List Nat)} {e1 e2 e3 : List Nat} (hE : E = [e1, e2, e3]) {s : List Nat} (hs : s ∈ Chains.vecs E) : ∃ k1 k2 k3, s = [k1, k2, k3] ∧ k1 ≤ e1.length ∧ k2 ≤ e2.length ∧ k3 ≤ e3.length := by
  subst hE
  simp only [Chains.vecs, List.mem_flatMap, List.mem_map, List.mem_cons, List.not_mem_nil, or_false, List.mem_range] at hs
  obtain ⟨k1, h1, r, ⟨k2, h2, r2, ⟨k3, h3, r3, rfl, rfl⟩, rfl⟩, rfl⟩ := hs
  exact ⟨k1, k2, k3, rfl, by omega, by omega, by omega⟩
end Go.Proofs.YtldkfhimpkiigaaGreatDoor
