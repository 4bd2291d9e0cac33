/-
  Appending one cell to an owned row: where the new slice lies, and what the old row keeps.
-/
import Derived.Test.YtgieiehpnjhkoaaKit
import Derived.Deep.RegionLaw
import Derived.Deep.AppendLies
namespace Go.Proofs.Ytgieiehpnjhkoaa
open Go.RowKit

/-- What an owner's block keeps: its size, and its first n cells. -/
def KeepsRow (w w' : World) (e : TypeId) (v : Value) (n : Nat) : Prop :=
  ∀ k cs, v.ownBlock = some k → Blk w k e cs → ∃ cs', Blk w' k e cs' ∧ cs'.size = cs.size ∧ ∀ j, j < n → cs'[j]? = cs[j]?

theorem run_append_keep {P : Program} (w : World) (t ty : TypeId) (base : Nat) (e : TypeId) (i : TypeInfo) (z : Value) (bytes : Nat) (ht : P.underlying t = some (.slice e)) (hi : P.info? e = some i) (hz : i.zero = some z)
    (hsize : i.size = 1) (hby : i.bytes = bytes) (hzs : z.cells.size = 1)
    (v : Value) (n : Nat) (xs : List Value) (hown : w.ownsRow base e 1 v n xs)
    (ad : Addr) (c : Nat) (u : Value) (hu : w.cell? ad = some u) (hpu : ad.add 0 = ad) (h1 : u.oneCell' = true)
    (h63 : n + 1 ≤ maxLen) (hbytes : (n + 1) * bytes ≤ 140737488355328) (hbase : base ≤ w.heap.size) (H : Nat) (hH : w.heap.size = H) :
    ∃ g cap w', (Builtin.append_ #[t, t] ty #[v, .slice (some ad) 1 c]).run P w = .ok (.slice (some ⟨g, 0, none⟩) (n + 1) cap) w' ∧
      w'.ownsRow base e 1 (.slice (some ⟨g, 0, none⟩) (n + 1) cap) (n + 1) (xs ++ [u]) ∧ w.grownBy w' v.ownBlock ∧ (v.ownBlock = some g ∨ g = H) ∧ g < w'.heap.size ∧ KeepsRow w w' e v n := by
  have hnews : ∀ j x, [u][j]? = some x → w.cell? (ad.add j) = some x := by
    intro j x hx
    match j, hx with
    | 0, hx => rw [hpu, hu]; simpa using hx
    | j + 1, hx => simp at hx
  have h1' : ∀ x ∈ [u], x.oneCell' = true := by intro x hx; simp at hx; subst hx; exact h1
  obtain ⟨g, cap, w', hr, h2, h3, h4, h5⟩ := run_append_lies (P := P) w t ty base e i z 1 bytes ht hi hz hsize hby hzs (by omega) v n xs hown ad 1 c [u] (by simp) hnews h1' (by omega) h63 hbytes hbase H hH
  refine ⟨g, cap, w', hr, h2, h3, h4, h5, ?_⟩
  intro k cs hk hcs
  rcases hown.2 with ⟨rfl, h0⟩ | ⟨b, cap0, cur, rfl, _, hb, hle, hcm, hcs2, htk⟩
  · simp [Value.ownBlock] at hk
  · obtain rfl : b = k := by simpa [Value.ownBlock] using hk
    obtain rfl : cur = cs := by
      have := hb.symm.trans hcs
      simpa using this
    by_cases hroom : n + 1 ≤ cap0
    · have hcell : ∀ j, j < cap0 → (w.cell? ⟨b, j, none⟩).isSome = true := by
        intro j hj
        rw [Blk.cell hcs]
        simp
        omega
      have hr2 := run_append_room_cells (P := P) w t ty e i ht hi b 0 n cap0 ad 1 c [u] (by simp [hsize]) hnews h1' hroom (by intro j hj; simp at hj; subst hj; exact hcell _ (by simp [hsize]; omega)) (by intro j hj; exact Blk.frozen hcs _)
      have e1 := hr.symm.trans hr2
      simp only [Result.ok.injEq, Value.slice.injEq, Option.some.injEq, Addr.mk.injEq] at e1
      obtain ⟨⟨⟨rfl, _⟩, _, rfl⟩, _⟩ := e1
      rcases h2.2 with ⟨h0, _⟩ | ⟨b', cap', cur', hv', _, hb', _, _, hs', ht'⟩
      · cases h0
      · simp only [Value.slice.injEq, Option.some.injEq, Addr.mk.injEq, and_true, true_and] at hv'
        obtain ⟨rfl, rfl⟩ := hv'
        refine ⟨cur', hb', by omega, fun j hj => ?_⟩
        have a1 : cur'.toList.take ((n + 1) * 1) = xs ++ [u] := ht'
        have a2 : cur.toList.take (n * 1) = xs := htk
        rw [← Array.getElem?_toList, ← Array.getElem?_toList]
        have b1 : cur'.toList[j]? = (xs ++ [u])[j]? := by rw [← a1, List.getElem?_take_of_lt (by omega)]
        have hxl : xs.length = n := by have := hown.1; simpa using this
        have b2 : cur.toList[j]? = xs[j]? := by rw [← a2, List.getElem?_take_of_lt (by omega)]
        rw [b1, b2, List.getElem?_append_left (by omega)]
    · have holds : ∀ j x, xs[j]? = some x → w.cell? ((⟨b, 0, none⟩ : Addr).add j) = some x := by
        intro j x hx
        have hj := (List.getElem?_eq_some_iff.1 hx).1
        have hxl : xs.length = n := by have := hown.1; simpa using this
        have := Blk.cell hcs j
        rw [← Array.getElem?_toList] at this
        have b2 : cur.toList[j]? = xs[j]? := by
          have a2 : cur.toList.take (n * 1) = xs := htk
          rw [← a2, List.getElem?_take_of_lt (by omega)]
        rw [b2, hx] at this
        rw [← this]
        congr 1
        simp [Addr.add]
        intro e; exact e.symm
      obtain ⟨v2, w2, hr2, _, hg2⟩ := run_append_arg_grows (P := P) w t ty e i z 1 bytes ht hi hz hsize hby hzs (by omega) ⟨b, 0, none⟩ n cap0 xs (by have := hown.1; simpa using this) holds ad 1 c [u] (by simp) hnews (by omega) h63 hbytes
      have e1 := hr.symm.trans hr2
      simp only [Result.ok.injEq] at e1
      obtain ⟨_, rfl⟩ := e1
      refine ⟨cur, ?_, rfl, fun _ _ => rfl⟩
      exact Blk.grown hcs hg2 (by simp)

/-- At a step of a region that draws. -/
theorem step_append_keep {P : Program} (w : World) {ops : Array Oper} {o : Oper} {a : Act} {K : Act → World → Prop} {Q : Exit → Act → World → Prop} {E : Prop} (hgd : o.guard = none) (s x : Operand) (t : TypeId)
    (ho : o.op = .call { callee := .builtin .append, args := #[s, x], argTypes := #[t, t] })
    (base : Nat) (e : TypeId) (i : TypeInfo) (z : Value) (bytes : Nat) (ht : P.underlying t = some (.slice e)) (hi : P.info? e = some i) (hz : i.zero = some z)
    (hsize : i.size = 1) (hby : i.bytes = bytes) (hzs : z.cells.size = 1)
    (v : Value) (n : Nat) (xs : List Value) (hs : a.eval s = v) (hown : w.ownsRow base e 1 v n xs)
    (ad : Addr) (c : Nat) (u : Value) (hx : a.eval x = .slice (some ad) 1 c) (hu : w.cell? ad = some u) (hpu : ad.add 0 = ad) (h1 : u.oneCell' = true)
    (h63 : n + 1 ≤ maxLen) (hbytes : (n + 1) * bytes ≤ 140737488355328) (hbase : base ≤ w.heap.size) (H : Nat) (hH : w.heap.size = H)
    (h : ∀ g cap w', w'.ownsRow base e 1 (.slice (some ⟨g, 0, none⟩) (n + 1) cap) (n + 1) (xs ++ [u]) → w.grownBy w' v.ownBlock → (v.ownBlock = some g ∨ g = H) → g < w'.heap.size → KeepsRow w w' e v n → K (a.put o.dst (.slice (some ⟨g, 0, none⟩) (n + 1) cap)) w') :
    if Region.wanted o (yielded ops a.tmps) = true then Oper.wp P o a w K Q else E := by
  obtain ⟨g, cap, w', hr, h2, h3, h4, h5, h6⟩ := run_append_keep (P := P) w t o.type base e i z bytes ht hi hz hsize hby hzs v n xs hown ad c u hu hpu h1 h63 hbytes hbase H hH
  have hw : Region.wanted o (yielded ops a.tmps) = true := by simp [Region.wanted, hgd]
  rw [if_pos hw]
  unfold Oper.wp execOp
  simp only [ho, resolve, invoke, builtin, Sem.run_bind, Sem.run_pure, Result.andThen_ok, List.map_toArray, List.map_cons, List.map_nil, hs, hx, hr]
  exact h g cap w' h2 h3 h4 h5 h6
end Go.Proofs.Ytgieiehpnjhkoaa
