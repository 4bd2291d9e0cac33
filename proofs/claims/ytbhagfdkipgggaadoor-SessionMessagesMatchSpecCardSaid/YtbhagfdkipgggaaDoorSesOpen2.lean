/-
  What the rows of layer 29 hand the walks: hellos, welcomes, messages, tables.
-/
import Derived.Test.YtbhagfdkipgggaaDoorSesOpen
import Derived.Test.YtbhagfdkipgggaaDoorMM
import Derived.Deep.Slices
namespace Go.Proofs.YtbhagfdkipgggaaDoor
open Go.ChangeShapes Go.WideShapes Go.ChangeAt Go.RowKit Go.Deep
theorem cellsHel : Tryd.prog.cellsOf 23 = 3 := by kernel_rfl
theorem cellsWel : Tryd.prog.cellsOf 25 = 3 := by kernel_rfl
theorem cellsMsg : Tryd.prog.cellsOf 42 = 3 := by kernel_rfl
instance : Inhabited Ses := ⟨noSes⟩
theorem spot_of {w : World} {a : Addr} {v : Value} (h : w.cell? a = some v) : a = ⟨a.block, a.off, none⟩ ∧ a.block < w.heap.size := by
  obtain ⟨b, o, s⟩ := a
  unfold World.cell? at h
  split at h
  · rename_i hb
    refine ⟨?_, (Array.getElem?_eq_some_iff.1 hb).1⟩
    cases s with
    | none => rfl
    | some x => simp at h
  · cases h
section
variable {H : Type} {enc : TypeId × Value → H} {w : World} {base : Nat} {spare : Nat → Bool} {held : Bool}
set_option maxRecDepth 100000 in
theorem hel_cells {m : Nat} {cs : List Value} {x : DataW H × List MemPlace} (h : DataW.trod enc Tryd.prog w base spare held m 23 cs = some x) : ∃ s : Hel, cs = helC s := by
  obtain ⟨xs, n, _, _, hl, hlen, hf⟩ := DataW.trod_struct Tryd.underlying23 h
  rw [cellsHel] at hl
  have f0 : DataW.trod enc Tryd.prog w base spare held n 3 ((cs.drop 0).take (Tryd.prog.cellsOf 3)) = xs[0]? := hf 0 _ rfl
  have f1 : DataW.trod enc Tryd.prog w base spare held n 9 ((cs.drop 1).take (Tryd.prog.cellsOf 9)) = xs[1]? := hf 1 _ rfl
  have f2 : DataW.trod enc Tryd.prog w base spare held n 9 ((cs.drop 2).take (Tryd.prog.cellsOf 9)) = xs[2]? := hf 2 _ rfl
  rw [cellsIntS] at f0
  rw [cellsStrS] at f1 f2
  have hx : ∀ i, i < 3 → ∃ y, xs[i]? = some y := fun i hi => ⟨_, List.getElem?_eq_getElem (by rw [hlen]; exact hi)⟩
  obtain ⟨y0, e0⟩ := hx 0 (by decide)
  obtain ⟨y1, e1⟩ := hx 1 (by decide)
  obtain ⟨y2, e2⟩ := hx 2 (by decide)
  obtain ⟨a, ha, _, _⟩ := DataW.trod_int Tryd.underlying3 (f0.trans e0)
  obtain ⟨b, hb, _, _⟩ := DataW.trod_string Tryd.underlying9 (f1.trans e1)
  obtain ⟨c, hc, _, _⟩ := DataW.trod_string Tryd.underlying9 (f2.trans e2)
  refine ⟨⟨a, b, c⟩, ?_⟩
  match cs, hl with
  | [c0, c1, c2], _ =>
    simp at ha hb hc
    rw [ha, hb, hc]
    rfl
set_option maxRecDepth 100000 in
theorem wel_cells {m : Nat} {cs : List Value} {x : DataW H × List MemPlace} (h : DataW.trod enc Tryd.prog w base spare held m 25 cs = some x) : ∃ s : Wel, cs = welC s := by
  obtain ⟨xs, n, _, _, hl, hlen, hf⟩ := DataW.trod_struct Tryd.underlying25 h
  rw [cellsWel] at hl
  have f0 : DataW.trod enc Tryd.prog w base spare held n 3 ((cs.drop 0).take (Tryd.prog.cellsOf 3)) = xs[0]? := hf 0 _ rfl
  have f1 : DataW.trod enc Tryd.prog w base spare held n 9 ((cs.drop 1).take (Tryd.prog.cellsOf 9)) = xs[1]? := hf 1 _ rfl
  have f2 : DataW.trod enc Tryd.prog w base spare held n 9 ((cs.drop 2).take (Tryd.prog.cellsOf 9)) = xs[2]? := hf 2 _ rfl
  rw [cellsIntS] at f0
  rw [cellsStrS] at f1 f2
  have hx : ∀ i, i < 3 → ∃ y, xs[i]? = some y := fun i hi => ⟨_, List.getElem?_eq_getElem (by rw [hlen]; exact hi)⟩
  obtain ⟨y0, e0⟩ := hx 0 (by decide)
  obtain ⟨y1, e1⟩ := hx 1 (by decide)
  obtain ⟨y2, e2⟩ := hx 2 (by decide)
  obtain ⟨a, ha, _, _⟩ := DataW.trod_int Tryd.underlying3 (f0.trans e0)
  obtain ⟨b, hb, _, _⟩ := DataW.trod_string Tryd.underlying9 (f1.trans e1)
  obtain ⟨c, hc, _, _⟩ := DataW.trod_string Tryd.underlying9 (f2.trans e2)
  refine ⟨⟨a, b, c⟩, ?_⟩
  match cs, hl with
  | [c0, c1, c2], _ =>
    simp at ha hb hc
    rw [ha, hb, hc]
    rfl
set_option maxRecDepth 100000 in
theorem msg_cells {m : Nat} {cs : List Value} {x : DataW H × List MemPlace} (h : DataW.trod enc Tryd.prog w base spare held m 42 cs = some x) : ∃ s : Msg, cs = msgC s ∧ -9223372036854775808 ≤ s.num ∧ s.num < 9223372036854775808 := by
  obtain ⟨xs, n, _, _, hl, hlen, hf⟩ := DataW.trod_struct Tryd.underlying42 h
  rw [cellsMsg] at hl
  have f0 : DataW.trod enc Tryd.prog w base spare held n 3 ((cs.drop 0).take (Tryd.prog.cellsOf 3)) = xs[0]? := hf 0 _ rfl
  have f1 : DataW.trod enc Tryd.prog w base spare held n 3 ((cs.drop 1).take (Tryd.prog.cellsOf 3)) = xs[1]? := hf 1 _ rfl
  have f2 : DataW.trod enc Tryd.prog w base spare held n 9 ((cs.drop 2).take (Tryd.prog.cellsOf 9)) = xs[2]? := hf 2 _ rfl
  rw [cellsIntS] at f0 f1
  rw [cellsStrS] at f2
  have hx : ∀ i, i < 3 → ∃ y, xs[i]? = some y := fun i hi => ⟨_, List.getElem?_eq_getElem (by rw [hlen]; exact hi)⟩
  obtain ⟨y0, e0⟩ := hx 0 (by decide)
  obtain ⟨y1, e1⟩ := hx 1 (by decide)
  obtain ⟨y2, e2⟩ := hx 2 (by decide)
  obtain ⟨a, ha, _, _⟩ := DataW.trod_int Tryd.underlying3 (f0.trans e0)
  obtain ⟨b, hb, _, wb⟩ := DataW.trod_int Tryd.underlying3 (f1.trans e1)
  obtain ⟨c, hc, _, _⟩ := DataW.trod_string Tryd.underlying9 (f2.trans e2)
  refine ⟨⟨a, b, c⟩, ?_, ?_⟩
  · match cs, hl with
    | [c0, c1, c2], _ =>
      simp at ha hb hc
      rw [ha, hb, hc]
      rfl
  · simp only [Lit.wf, Bool.and_eq_true, IntKind.min, IntKind.max] at wb
    simp [IntKind.signed, IntKind.bits] at wb
    dsimp only
    omega
end
section
variable {H : Type} {enc : TypeId × Value → H} {W : World} {v : Value} {d : DataW H} {ps : List MemPlace} {base : Nat}
set_option maxRecDepth 100000 in
theorem open_hello (hv : Value.okWide Tryd.prog W .any base 23 v) (h : DataW.Trod enc Tryd.prog W 0 (fun _ => true) true 23 v d ps) : ∃ s : Hel, v = helV s := by
  obtain ⟨cs, rfl, hs⟩ := okWide_struct Tryd.underlying23 hv
  obtain ⟨fuel, hf⟩ := h
  obtain ⟨s, e⟩ := hel_cells hf
  have hcs : (Value.agg cs).cells.toList = cs.toList := by simp [Value.cells]
  rw [hcs] at e
  refine ⟨s, ?_⟩
  obtain ⟨l⟩ := cs
  have e' : l = _ := e
  rw [e']
  rfl
set_option maxRecDepth 100000 in
theorem open_welcome (hv : Value.okWide Tryd.prog W .any base 25 v) (h : DataW.Trod enc Tryd.prog W 0 (fun _ => true) true 25 v d ps) : ∃ s : Wel, v = welV s := by
  obtain ⟨cs, rfl, hs⟩ := okWide_struct Tryd.underlying25 hv
  obtain ⟨fuel, hf⟩ := h
  obtain ⟨s, e⟩ := wel_cells hf
  have hcs : (Value.agg cs).cells.toList = cs.toList := by simp [Value.cells]
  rw [hcs] at e
  refine ⟨s, ?_⟩
  obtain ⟨l⟩ := cs
  have e' : l = _ := e
  rw [e']
  rfl
set_option maxRecDepth 100000 in
theorem open_message (hv : Value.okWide Tryd.prog W .any base 42 v) (h : DataW.Trod enc Tryd.prog W 0 (fun _ => true) true 42 v d ps) : ∃ s : Msg, v = msgV s ∧ -9223372036854775808 ≤ s.num ∧ s.num < 9223372036854775808 := by
  obtain ⟨cs, rfl, hs⟩ := okWide_struct Tryd.underlying42 hv
  obtain ⟨fuel, hf⟩ := h
  obtain ⟨s, e, hr⟩ := msg_cells hf
  have hcs : (Value.agg cs).cells.toList = cs.toList := by simp [Value.cells]
  rw [hcs] at e
  refine ⟨s, ?_, hr⟩
  obtain ⟨l⟩ := cs
  have e' : l = _ := e
  rw [e']
  rfl
theorem tabC_find {L : List Ses} {j : Nat} {u : Value} (h : (tabC L)[j]? = some u) : ∃ s, L[j / 7]? = some s ∧ (sesC s)[j % 7]? = some u := by
  have hl := (List.getElem?_eq_some_iff.1 h).1
  rw [tabC_len] at hl
  have hj : j / 7 < L.length := by omega
  refine ⟨L[j / 7], List.getElem?_eq_getElem hj, ?_⟩
  rw [← tabC_at L (j / 7) (j % 7) _ (List.getElem?_eq_getElem hj) (Nat.mod_lt _ (by decide)), show j / 7 * 7 + j % 7 = j by omega]
  exact h
set_option maxRecDepth 100000 in
/-- A table that comes in as an argument. -/
theorem open_table (hv : Value.okWide Tryd.prog W .any base 55 v) (h : DataW.Trod enc Tryd.prog W 0 (fun _ => true) true 55 v d ps) : ∃ L : List Ses, TabAt W v L := by
  obtain ⟨a0, len, cap, rfl⟩ := okWide_slice Tryd.underlying55 hv
  obtain ⟨fuel, hf⟩ := h
  rcases open_slice Tryd.underlying55 hf with ⟨hcs, _⟩ | ⟨a, len', cap', m, n, D, Pl, hcs, _, hl, hm, hmm, _, hx⟩
  · simp [Value.cells] at hcs
    obtain ⟨rfl, rfl, rfl⟩ := hcs
    exact ⟨[], TabAt.nil W⟩
  · simp [Value.cells] at hcs
    obtain ⟨rfl, rfl, rfl⟩ := hcs
    simp only [if_true] at hmm
    rw [cellsSes] at hx
    obtain ⟨T, hT⟩ := choose_lt (α := Ses) (n := len) (p := fun i T => W.cells? 0 (a.add (i * 7)) 7 = some (sesC T)) (fun i hi => by
      obtain ⟨cs', h1, h2⟩ := hx i (by omega)
      obtain ⟨T, rfl, _⟩ := ses_cells h2
      exact ⟨T, h1⟩)
    have hlen : ((List.range len).map T).length = len := by rw [List.length_map, List.length_range]
    have hat : ∀ i, i < len → ∀ j, j < 7 → W.cell? ((a.add (i * 7)).add j) = (sesC (T i))[j]? := fun i hi j hj => (World.cells?_some (hT i hi)).2.2 j hj
    refine ⟨(List.range len).map T, a, cap, by rw [hlen], by rw [hlen]; exact hl, hm, fun hl0 => ?_⟩
    rw [hlen] at hl0
    have h00 := hat 0 hl0 0 (by decide)
    rw [Nat.zero_mul] at h00
    have ha0 : (a.add 0).add 0 = a := by simp [Addr.add]
    rw [ha0] at h00
    obtain ⟨ha, hbl⟩ := spot_of (v := .int .i64 (T 0).id) h00
    refine ⟨a.block, a.off, by rw [← ha], hbl, fun j u hj => ?_⟩
    obtain ⟨s, hs, hu⟩ := tabC_find hj
    rw [List.getElem?_map] at hs
    obtain ⟨i', hi', e⟩ := Option.map_eq_some_iff.1 hs
    have hil : j / 7 < len := by have := (List.getElem?_eq_some_iff.1 hi').1; simpa using this
    rw [List.getElem?_range hil] at hi'
    cases hi'
    have := hat (j / 7) hil (j % 7) (Nat.mod_lt _ (by decide))
    rw [ha, Addr.add_lit, Addr.add_lit, e, hu, Nat.add_assoc, show j / 7 * 7 + j % 7 = j by omega] at this
    exact this
end
end Go.Proofs.YtbhagfdkipgggaaDoor
