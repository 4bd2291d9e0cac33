/-
  A slice of tokens that comes in as an argument.
-/
import Derived.Test.YtgieiehpnjhkoabDoorLexOpen
import Derived.Deep.Slices
namespace Go.Proofs.YtgieiehpnjhkoabDoor
open Go.ChangeShapes Go.WideShapes Go.ChangeAt Go.RowKit LexP Go.Deep

theorem Tryd.laidOut : laidOutB Tryd.prog = true := by kernel_rfl
theorem cellsTok : Tryd.prog.cellsOf 36 = 4 := by kernel_rfl
theorem cellsStr : Tryd.prog.cellsOf 9 = 1 := by kernel_rfl

instance : Inhabited GTok := ⟨⟨0, ⟨#[]⟩, 0, 0⟩⟩

section
variable {H : Type} {enc : TypeId × Value → H} {w : World} {base : Nat} {spare : Nat → Bool} {held : Bool}
theorem tok_cells {m : Nat} {cs : List Value} {x : DataW H × List MemPlace} (h : DataW.trod enc Tryd.prog w base spare held m 36 cs = some x) :
    ∃ T : GTok, cs = [.int .i64 T.kind, .string T.text, .int .i64 T.n, .int .i64 T.pos] := by
  obtain ⟨xs, n, _, _, hl, hlen, hf⟩ := DataW.trod_struct Tryd.underlying36 h
  rw [cellsTok] at hl
  have f0 : DataW.trod enc Tryd.prog w base spare held n 3 ((cs.drop 0).take (Tryd.prog.cellsOf 3)) = xs[0]? := hf 0 _ rfl
  have f1 : DataW.trod enc Tryd.prog w base spare held n 9 ((cs.drop 1).take (Tryd.prog.cellsOf 9)) = xs[1]? := hf 1 _ rfl
  have f2 : DataW.trod enc Tryd.prog w base spare held n 3 ((cs.drop 2).take (Tryd.prog.cellsOf 3)) = xs[2]? := hf 2 _ rfl
  have f3 : DataW.trod enc Tryd.prog w base spare held n 3 ((cs.drop 3).take (Tryd.prog.cellsOf 3)) = xs[3]? := hf 3 _ rfl
  rw [cellsInt] at f0 f2 f3
  rw [cellsStr] at f1
  have hx : ∀ i, i < 4 → ∃ y, xs[i]? = some y := fun i hi => ⟨_, List.getElem?_eq_getElem (by rw [hlen]; exact hi)⟩
  obtain ⟨y0, e0⟩ := hx 0 (by decide)
  obtain ⟨y1, e1⟩ := hx 1 (by decide)
  obtain ⟨y2, e2⟩ := hx 2 (by decide)
  obtain ⟨y3, e3⟩ := hx 3 (by decide)
  obtain ⟨a, ha, _, _⟩ := DataW.trod_int Tryd.underlying3 (f0.trans e0)
  obtain ⟨s, hs, _, _⟩ := DataW.trod_string Tryd.underlying9 (f1.trans e1)
  obtain ⟨b, hb, _, _⟩ := DataW.trod_int Tryd.underlying3 (f2.trans e2)
  obtain ⟨c, hc, _, _⟩ := DataW.trod_int Tryd.underlying3 (f3.trans e3)
  refine ⟨⟨a, s, b, c⟩, ?_⟩
  match cs, hl with
  | [c0, c1, c2, c3], _ =>
    simp at ha hs hb hc
    rw [ha, hs, hb, hc]
end

theorem cell_spot {w : World} {a : Addr} {v : Value} (h : w.cell? a = some v) : a = ⟨a.block, a.off, none⟩ ∧ a.block < w.heap.size := by
  obtain ⟨b, o, sp⟩ := a
  unfold World.cell? at h
  split at h
  · rename_i c e f hh
    split at h
    · cases h
    · rename_i hsp
      have hs : sp = none := by
        cases sp with
        | none => rfl
        | some x => simp at hsp
      exact ⟨by rw [hs], (Array.getElem?_eq_some_iff.1 hh).1⟩
  · cases h

theorem open_toks {H : Type} {enc : TypeId × Value → H} {W : World} {base : Nat} {v : Value} {d : DataW H} {ps : List MemPlace} (hv : Value.okWide Tryd.prog W .any base 23 v)
    (h : DataW.Trod enc Tryd.prog W 0 (fun _ => true) true 23 v d ps) : ∃ l : List GTok, ToksAt W v l ∧ l.length ≤ maxLen := by
  obtain ⟨a0, len, cap, rfl⟩ := okWide_slice Tryd.underlying23 hv
  obtain ⟨fuel, hf⟩ := h
  rcases open_slice Tryd.underlying23 hf with ⟨hcs, _⟩ | ⟨a, len', cap', m, n, D, Pl, hcs, _, hl, hm, hmm, _, hx⟩
  · simp [Value.cells] at hcs
    obtain ⟨rfl, rfl, rfl⟩ := hcs
    exact ⟨[], toksAt_nil W, by simp⟩
  · simp [Value.cells] at hcs
    obtain ⟨rfl, rfl, rfl⟩ := hcs
    simp only [if_true] at hmm
    rw [cellsTok] at hx
    obtain ⟨T, hT⟩ := choose_lt (α := GTok) (n := len) (p := fun i T => W.cells? 0 (a.add (i * 4)) 4 = some [.int .i64 T.kind, .string T.text, .int .i64 T.n, .int .i64 T.pos]) (fun i hi => by
      obtain ⟨cs', h1, h2⟩ := hx i (by omega)
      obtain ⟨T, rfl⟩ := tok_cells h2
      exact ⟨T, h1⟩)
    refine ⟨(List.range len).map T, ⟨_, cap, by rw [List.length_map, List.length_range], fun hl0 => ?_⟩, by rw [List.length_map, List.length_range]; omega⟩
    rw [List.length_map, List.length_range] at hl0
    have hat : ∀ i, i < len → ∀ j, j < 4 → W.cell? ((a.add (i * 4)).add j) = [Value.int .i64 (T i).kind, .string (T i).text, .int .i64 (T i).n, .int .i64 (T i).pos][j]? := fun i hi j hj =>
      (World.cells?_some (hT i hi)).2.2 j hj
    have h00 := hat 0 hl0 0 (by decide)
    rw [Nat.zero_mul] at h00
    have ha0 : (a.add 0).add 0 = a := by simp [Addr.add]
    rw [ha0] at h00
    obtain ⟨ha, hbl⟩ := cell_spot h00
    rw [ha] at hat ⊢
    refine ⟨_, _, rfl, hbl, fun i G hG => ?_⟩
    rw [List.getElem?_map] at hG
    obtain ⟨i', hi', rfl⟩ := Option.map_eq_some_iff.1 hG
    have hil : i < len := by have := (List.getElem?_eq_some_iff.1 hi').1; simpa using this
    have : i' = i := by rw [List.getElem?_range hil] at hi'; cases hi'; rfl
    subst this
    have a0 := hat i' hil 0 (by decide)
    have a1 := hat i' hil 1 (by decide)
    have a2 := hat i' hil 2 (by decide)
    have a3 := hat i' hil 3 (by decide)
    rw [Addr.add_lit, Addr.add_lit] at a0 a1 a2 a3
    exact ⟨a0, a1, a2, a3⟩
end Go.Proofs.YtgieiehpnjhkoabDoor
