/-
  A map from texts to numbers, in memory; a store into a row of the call's own (layer 12).
-/
import Derived.Test.YtemhiiignamkjaaDoorParW3
import Derived.Maps.OwnSet
import Derived.StringKeys
namespace Go.Proofs.YtemhiiignamkjaaDoor
open Go.RowKit Go.Maps
/-- A map from texts to numbers, in memory. -/
def IdxMap (w : World) (mb N : Nat) (f : ByteArray → Option Nat) : Prop :=
  ∃ D : DataW Unit, w.ownsMap Tryd.prog 9 (plainElem Tryd.prog 3) mb N D ∧ ∀ k : ByteArray, has D (.string k.data.toList) = (f k).isSome ∧ ∀ t, f k = some t → D.atKey (.string k.data.toList) (.lit (.int .i64 0)) = .lit (.int .i64 (t : Int))
theorem lawStr : Keyed Tryd.prog 9 := string_keyed Tryd.underlying9
theorem zeroI (w : World) : (zeroValue 3).run Tryd.prog w = .ok (.int .i64 0) w := by kernel_rfl
theorem keyS {s : ByteArray} (hs : s.size ≤ maxLen) : keyOf Tryd.prog 9 (.string s) = some (.string s.data.toList) := Go.WideMaps.keyOf_string_mk Tryd.underlying9 hs
set_option maxRecDepth 100000 in
theorem wf_nat {k : Nat} (h : k ≤ 1000000) : (Lit.int .i64 (k : Int)).wf = true := by
  simp [Lit.wf, IntKind.min, IntKind.max, IntKind.signed, IntKind.bits]
  omega
section
variable {w w' : World} {mb N : Nat} {f : ByteArray → Option Nat}
theorem IdxMap.look (h : IdxMap w mb N f) {s : ByteArray} (hs : s.size ≤ maxLen) : (Instr.lookup 99 (.map (some mb)) (.string s) true).run Tryd.prog w = .ok (.tuple #[.int .i64 (((f s).getD 0 : Nat) : Int), .bool (f s).isSome]) w := by
  obtain ⟨D, h1, h2⟩ := h
  obtain ⟨v, ps, hrun, hv⟩ := h1.look_ok lawStr Tryd.underlying99 (zeroI w) (plainElem_int Tryd.underlying3 (by decide)) (keyS hs)
  obtain ⟨h3, h4⟩ := h2 s
  have hv' : v = .int .i64 (((f s).getD 0 : Nat) : Int) := by
    cases hf : f s with
    | some t =>
      rw [h4 t hf] at hv
      obtain ⟨c, rfl, hc, _⟩ := plainElem_int_inv Tryd.underlying3 hv
      simp only [Prod.mk.injEq, DataW.lit.injEq, Lit.int.injEq, true_and] at hc
      rw [← hc.1]
      rfl
    | none =>
      rw [hf] at h3
      rw [atKey_of_not_has h3] at hv
      obtain ⟨c, rfl, hc, _⟩ := plainElem_int_inv Tryd.underlying3 hv
      simp only [Prod.mk.injEq, DataW.lit.injEq, Lit.int.injEq, true_and] at hc
      rw [← hc.1]
      rfl
  rw [hrun, h3, hv']
theorem IdxMap.kept {row : Option Nat} (h : IdxMap w mb N f) (hg : w.grownBy w' row) (hne : some mb ≠ row) : IdxMap w' mb N f := by
  obtain ⟨D, h1, h2⟩ := h
  exact ⟨D, h1.kept hg hne, h2⟩
theorem IdxMap.below (h : IdxMap w mb N f) (hB : Below w.heap.size w w') : IdxMap w' mb N f := h.kept (hgrownB hB (Nat.le_refl _) none) (by simp)
theorem IdxMap.lt (h : IdxMap w mb N f) : mb < w.heap.size := by obtain ⟨D, h1, _⟩ := h; exact h1.lt
theorem IdxMap.ne {t : TypeId} {g : Nat} {cs : Array Value} (h : IdxMap w mb N f) (hg : Blk w g t cs) : mb ≠ g := by
  obtain ⟨D, ⟨es, clock, hb, _⟩, _⟩ := h
  intro e
  subst e
  have := hb.symm.trans hg
  simp at this
theorem IdxMap.own_ne {B n k : Nat} {e : TypeId} {v : Value} {xs : List Value} (h : IdxMap w mb N f) (hr : w.ownsRow B e k v n xs) : some mb ≠ v.ownBlock := by
  obtain ⟨D, ⟨es, clock, hb, _⟩, _⟩ := h
  rcases hr.2 with ⟨hv, _⟩ | ⟨g', cap, cur, hv, _, hg', _⟩
  · rw [hv]; intro e0; cases e0
  · rw [hv]
    intro e0
    cases e0
    rw [hb] at hg'
    cases hg'
theorem idxMap_new (w : World) : IdxMap (w.alloc (.map #[] 0)) w.heap.size 0 (fun _ => none) := ⟨.map [], World.ownsMap_made _ _ _ _, fun _ => ⟨rfl, fun t e => by cases e⟩⟩
theorem IdxMap.mono (h : IdxMap w mb N f) {N' : Nat} (hn : N ≤ N') : IdxMap w mb N' f := by
  obtain ⟨D, h1, h2⟩ := h
  exact ⟨D, h1.mono hn, h2⟩
theorem IdxMap.put (h : IdxMap w mb N f) (hN : N < 1000000) {s : ByteArray} (hs : s.size ≤ maxLen) {v : Nat} (hv : v ≤ 1000000) :
    ∃ w', (Instr.mapUpdate 99 (.map (some mb)) (.string s) (.int .i64 v)).run Tryd.prog w = .ok () w' ∧ IdxMap w' mb (N + 1) (fun k => if k = s then some v else f k) ∧ w.grownBy w' (some mb) := by
  obtain ⟨D, h1, h2⟩ := h
  obtain ⟨w', hrun, r1, r2⟩ := h1.update lawStr Tryd.underlying99 (Nat.lt_trans hN (by unfold maxLen; decide)) (keyS hs) (plainElem_int Tryd.underlying3 (wf_nat hv))
  refine ⟨w', hrun, ⟨_, r1, fun k => ?_⟩, r2⟩
  dsimp only
  by_cases hk : k = s
  · subst hk
    rw [if_pos rfl]
    refine ⟨has_put_same h1.isMap (by trivial) _, fun t e => ?_⟩
    cases e
    exact atKey_put_same h1.isMap (by trivial) _ _
  · rw [if_neg hk]
    have hne : (Lit.string k.data.toList) ≠ Lit.string s.data.toList := fun e => hk (ByteArray.ext (Array.ext' (by simpa using e)))
    obtain ⟨h3, h4⟩ := h2 k
    refine ⟨?_, fun t e => ?_⟩
    · rw [has_put_other hne _]
      exact h3
    · rw [atKey_put_other hne _ _]
      exact h4 t e
end
theorem own_form {w : World} {B n : Nat} {el : TypeId} {k : Nat} {v : Value} {xs : List Value} (h : w.ownsRow B el k v n xs) (hn : 0 < n) : ∃ g c cur, v = .slice (some ⟨g, 0, none⟩) n c ∧ B ≤ g ∧ Blk w g el cur ∧ cur.toList.take (n * k) = xs := by
  rcases h.2 with ⟨_, h0⟩ | ⟨g, cap, cur, hv, hb, hg, _, _, _, ht⟩
  · omega
  · exact ⟨g, cap, cur, hv, hb, hg, ht⟩
/-- A store into a row of the call's own. -/
theorem own_set {w : World} {B g n c j : Nat} {e : TypeId} {k : Nat} {xs : List Value} (h : w.ownsRow B e k (.slice (some ⟨g, 0, none⟩) n c) n xs) (_hj : j < n * k) (u : Value) : (w.setCell ⟨g, j, none⟩ u).ownsRow B e k (.slice (some ⟨g, 0, none⟩) n c) n (xs.set j u) := by
  rcases h.2 with ⟨hv, _⟩ | ⟨g', cap, cur, hv, hb, hg, h1, h2, h3, h4⟩
  · cases hv
  · cases hv
    refine ⟨by rw [List.length_set]; exact h.1, .inr ⟨g, c, cur.setIfInBounds j u, rfl, hb, Blk.set_ hg j u, h1, h2, by simpa using h3, ?_⟩⟩
    rw [← h4, Array.toList_setIfInBounds, List.take_set]
end Go.Proofs.YtemhiiignamkjaaDoor
