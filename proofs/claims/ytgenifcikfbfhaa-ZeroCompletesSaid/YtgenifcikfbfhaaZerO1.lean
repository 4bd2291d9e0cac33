/-
  Layer 33 (zero): a size that comes in as an argument.
-/
import Derived.Test.YtgenifcikfbfhaaDevO1
namespace Go.Proofs.Ytgenifcikfbfhaa
open Go.ChangeShapes Go.WideShapes Go.ChangeAt Go.RowKit Go.Deep

theorem cellsSize : Try.prog.cellsOf 23 = 3 := by kernel_rfl
set_option maxRecDepth 100000 in
/-- A size that comes in as an argument. -/
theorem open_size {H : Type} {enc : TypeId × Value → H} {W : World} {v : Value} {d : DataW H} {ps : List MemPlace} {base : Nat} (hv : Value.okWide Try.prog W .any base 23 v)
    (h : DataW.Trod enc Try.prog W 0 (fun _ => true) true 23 v d ps) : ∃ x y z : Int, v = .agg #[.int .i64 x, .int .i64 y, .int .i64 z] := by
  obtain ⟨cs, rfl, hs⟩ := okWide_struct Try.underlying23 hv
  obtain ⟨fuel, hf⟩ := h
  obtain ⟨xs, n, _, _, hl, hlen, hf⟩ := DataW.trod_struct Try.underlying23 hf
  rw [cellsSize] at hl
  have f0 : DataW.trod enc Try.prog W 0 (fun _ => true) true n 3 (((Value.agg cs).cells.toList.drop 0).take (Try.prog.cellsOf 3)) = xs[0]? := hf 0 _ rfl
  have f1 : DataW.trod enc Try.prog W 0 (fun _ => true) true n 3 (((Value.agg cs).cells.toList.drop 1).take (Try.prog.cellsOf 3)) = xs[1]? := hf 1 _ rfl
  have f2 : DataW.trod enc Try.prog W 0 (fun _ => true) true n 3 (((Value.agg cs).cells.toList.drop 2).take (Try.prog.cellsOf 3)) = xs[2]? := hf 2 _ rfl
  rw [cellsInt] at f0 f1 f2
  have hx : ∀ i, i < 3 → ∃ y, xs[i]? = some y := fun i hi => ⟨_, List.getElem?_eq_getElem (by rw [hlen]; exact hi)⟩
  obtain ⟨y0, e0⟩ := hx 0 (by decide)
  obtain ⟨y1, e1⟩ := hx 1 (by decide)
  obtain ⟨y2, e2⟩ := hx 2 (by decide)
  obtain ⟨a, ha, _, _⟩ := DataW.trod_int Try.underlying3 (f0.trans e0)
  obtain ⟨b, hb, _, _⟩ := DataW.trod_int Try.underlying3 (f1.trans e1)
  obtain ⟨c, hc, _, _⟩ := DataW.trod_int Try.underlying3 (f2.trans e2)
  refine ⟨a, b, c, ?_⟩
  have hcs : (Value.agg cs).cells.toList = cs.toList := by simp [Value.cells]
  rw [hcs] at hl ha hb hc
  obtain ⟨l⟩ := cs
  match l, hl with
  | [c0, c1, c2], _ =>
    simp at ha hb hc
    rw [ha, hb, hc]

end Go.Proofs.Ytgenifcikfbfhaa
