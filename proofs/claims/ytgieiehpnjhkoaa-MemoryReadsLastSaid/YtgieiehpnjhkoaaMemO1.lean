/-
  Layer 22 (memory): a slice of operations that comes in as an argument.
-/
import Derived.Test.YtgieiehpnjhkoaaMemA4
import Derived.ProofKit
import Derived.Deep.Slices
namespace Go.Proofs.Ytgieiehpnjhkoaa
open Go.ChangeShapes Go.WideShapes Go.ChangeAt Go.RowKit Go.Deep

theorem Try.own : ownKnob Try.prog.godebug = none := by kernel_rfl
theorem Try.laidOut : laidOutB Try.prog = true := by kernel_rfl
theorem cellsOp : Try.prog.cellsOf 37 = 5 := by kernel_rfl
theorem cellsInt : Try.prog.cellsOf 3 = 1 := by kernel_rfl
theorem cellsInts : Try.prog.cellsOf 35 = 1 := by kernel_rfl
theorem cellsU8 : Try.prog.cellsOf 5 = 1 := by kernel_rfl

instance : Inhabited PlainOp := ⟨⟨0, 0, 0, 0, []⟩⟩

/-- One operation in memory, at offset o of block b. -/
def OpAt (W : World) (b o : Nat) (op : PlainOp) : Prop :=
  ∃ pv, W.cell? ⟨b, o, none⟩ = some (.int .i64 op.kind) ∧ W.cell? ⟨b, o + 1, none⟩ = some (.int .i64 op.i) ∧ W.cell? ⟨b, o + 2, none⟩ = some (.int .u8 op.fill) ∧ W.cell? ⟨b, o + 3, none⟩ = some (.int .i64 op.size) ∧ W.cell? ⟨b, o + 4, none⟩ = some pv ∧
    op.fill < 256 ∧ IntsAt W pv op.picks
/-- A script in memory. -/
def OpsAt (W : World) (v : Value) (ops : List PlainOp) : Prop :=
  ∃ A c, v = .slice A ops.length c ∧ (0 < ops.length → ∃ b o, A = some ⟨b, o, none⟩ ∧ b < W.heap.size ∧ ∀ i op, ops[i]? = some op → OpAt W b (o + i * 5) op)

theorem cell_spot {w : World} {a : Addr} {v : Value} (h : w.cell? a = some v) : a = ⟨a.block, a.off, none⟩ ∧ a.block < w.heap.size := by
  obtain ⟨b, o, sp⟩ := a
  unfold World.cell? at h
  split at h
  · rename_i c e f hh
    split at h
    · cases h
    · rename_i hsp
      have hs : sp = none := by
        cases sp with
        | none => rfl
        | some x => simp at hsp
      exact ⟨by rw [hs], (Array.getElem?_eq_some_iff.1 hh).1⟩
  · cases h

section
variable {H : Type} {enc : TypeId × Value → H} {w : World} {base : Nat} {spare : Nat → Bool} {held : Bool}
theorem u8_nat {a : Int} (h : (Lit.int .u8 a).wf = true) : ∃ n : Nat, a = n ∧ n < 256 := by
  simp [Lit.wf, IntKind.min, IntKind.max, IntKind.signed, IntKind.bits] at h
  exact ⟨a.toNat, by omega, by omega⟩
theorem open_ints {m : Nat} {cs : List Value} {x : DataW H × List MemPlace} (h : DataW.trod enc Try.prog w base spare held m 35 cs = some x) :
    ∃ (pv : Value) (P : List Int), cs = [pv] ∧ IntsAt w pv P := by
  rcases open_slice1 Try.underlying35 cellsInt h with ⟨rfl, _⟩ | ⟨a, len, cap, m', n, V, D, Pl, rfl, _, hl, hm, hmm, _, hx⟩
  · exact ⟨_, [], rfl, none, 0, rfl, Nat.le_refl _, Nat.zero_le _, fun h => absurd h (by simp)⟩
  · have hml : len ≤ m' := by
      cases hsp : spare a.block with
      | true => rw [hmm, hsp]; simpa using hl
      | false => rw [hmm, hsp]; simp
    obtain ⟨T, hT⟩ := choose_lt (α := Int) (n := len) (p := fun i T => w.cell? (a.add i) = some (.int .i64 T)) (fun i hi => by
      obtain ⟨h1, h2⟩ := hx i (by omega)
      obtain ⟨k, hk, _, _⟩ := DataW.trod_int Try.underlying3 h2
      simp at hk
      exact ⟨k, by rw [h1, hk]⟩)
    have hlen : ((List.range len).map T).length = len := by rw [List.length_map, List.length_range]
    refine ⟨_, (List.range len).map T, rfl, some a, cap, by rw [hlen], by rw [hlen]; exact hl, hm, fun h0 => ?_⟩
    rw [hlen] at h0
    have h00 := hT 0 h0
    have ha0 : a.add 0 = a := by simp [Addr.add]
    rw [ha0] at h00
    obtain ⟨ha, hbl⟩ := cell_spot h00
    refine ⟨a.block, a.off, by rw [← ha], hbl, fun i y hy => ?_⟩
    rw [List.getElem?_map] at hy
    obtain ⟨i', hi', rfl⟩ := Option.map_eq_some_iff.1 hy
    have hil : i < len := by have := (List.getElem?_eq_some_iff.1 hi').1; simpa using this
    have : i' = i := by rw [List.getElem?_range hil] at hi'; cases hi'; rfl
    subst this
    have := hT i' hil
    rw [ha, Addr.add_lit] at this
    exact this

/-- The cells of one operation. -/
def opCells (op : PlainOp) (pv : Value) : List Value := [.int .i64 op.kind, .int .i64 op.i, .int .u8 op.fill, .int .i64 op.size, pv]
set_option maxRecDepth 100000 in
theorem op_cells {m : Nat} {cs : List Value} {x : DataW H × List MemPlace} (h : DataW.trod enc Try.prog w base spare held m 37 cs = some x) :
    ∃ (op : PlainOp) (pv : Value), cs = opCells op pv ∧ op.fill < 256 ∧ IntsAt w pv op.picks := by
  obtain ⟨xs, n, _, _, hl, hlen, hf⟩ := DataW.trod_struct Try.underlying37 h
  rw [cellsOp] at hl
  have f0 : DataW.trod enc Try.prog w base spare held n 3 ((cs.drop 0).take (Try.prog.cellsOf 3)) = xs[0]? := hf 0 _ rfl
  have f1 : DataW.trod enc Try.prog w base spare held n 3 ((cs.drop 1).take (Try.prog.cellsOf 3)) = xs[1]? := hf 1 _ rfl
  have f2 : DataW.trod enc Try.prog w base spare held n 5 ((cs.drop 2).take (Try.prog.cellsOf 5)) = xs[2]? := hf 2 _ rfl
  have f3 : DataW.trod enc Try.prog w base spare held n 3 ((cs.drop 3).take (Try.prog.cellsOf 3)) = xs[3]? := hf 3 _ rfl
  have f4 : DataW.trod enc Try.prog w base spare held n 35 ((cs.drop 4).take (Try.prog.cellsOf 35)) = xs[4]? := hf 4 _ rfl
  rw [cellsInt] at f0 f1 f3
  rw [cellsU8] at f2
  rw [cellsInts] at f4
  have hx : ∀ i, i < 5 → ∃ y, xs[i]? = some y := fun i hi => ⟨_, List.getElem?_eq_getElem (by rw [hlen]; exact hi)⟩
  obtain ⟨y0, e0⟩ := hx 0 (by decide)
  obtain ⟨y1, e1⟩ := hx 1 (by decide)
  obtain ⟨y2, e2⟩ := hx 2 (by decide)
  obtain ⟨y3, e3⟩ := hx 3 (by decide)
  obtain ⟨y4, e4⟩ := hx 4 (by decide)
  obtain ⟨a, ha, _, _⟩ := DataW.trod_int Try.underlying3 (f0.trans e0)
  obtain ⟨b, hb, _, _⟩ := DataW.trod_int Try.underlying3 (f1.trans e1)
  obtain ⟨c, hc, _, hw⟩ := DataW.trod_int Try.underlying5 (f2.trans e2)
  obtain ⟨d, hd, _, _⟩ := DataW.trod_int Try.underlying3 (f3.trans e3)
  obtain ⟨pv, P, hp, hP⟩ := open_ints (f4.trans e4)
  obtain ⟨fl, rfl, hfl⟩ := u8_nat hw
  refine ⟨⟨a, b, fl, d, P⟩, pv, ?_, hfl, hP⟩
  match cs, hl with
  | [c0, c1, c2, c3, c4], _ =>
    simp at ha hb hc hd hp
    rw [ha, hb, hc, hd, hp]
    rfl
end

set_option maxRecDepth 100000 in
theorem open_ops {H : Type} {enc : TypeId × Value → H} {W : World} {base : Nat} {v : Value} {d : DataW H} {ps : List MemPlace} (hv : Value.okWide Try.prog W .any base 22 v)
    (h : DataW.Trod enc Try.prog W 0 (fun _ => true) true 22 v d ps) : ∃ ops : List PlainOp, OpsAt W v ops := by
  obtain ⟨a0, len, cap, rfl⟩ := okWide_slice Try.underlying22 hv
  obtain ⟨fuel, hf⟩ := h
  rcases open_slice Try.underlying22 hf with ⟨hcs, _⟩ | ⟨a, len', cap', m, n, D, Pl, hcs, _, hl, hm, hmm, _, hx⟩
  · simp [Value.cells] at hcs
    obtain ⟨rfl, rfl, rfl⟩ := hcs
    exact ⟨[], none, 0, rfl, fun h => absurd h (by simp)⟩
  · simp [Value.cells] at hcs
    obtain ⟨rfl, rfl, rfl⟩ := hcs
    simp only [if_true] at hmm
    rw [cellsOp] at hx
    obtain ⟨T, hT⟩ := choose_lt (α := PlainOp) (n := len) (p := fun i T => ∃ pv, W.cells? 0 (a.add (i * 5)) 5 = some (opCells T pv) ∧ T.fill < 256 ∧ IntsAt W pv T.picks) (fun i hi => by
      obtain ⟨cs', h1, h2⟩ := hx i (by omega)
      obtain ⟨T, pv, rfl, h3, h4⟩ := op_cells h2
      exact ⟨T, pv, h1, h3, h4⟩)
    have hlen : ((List.range len).map T).length = len := by rw [List.length_map, List.length_range]
    refine ⟨(List.range len).map T, _, cap, by rw [hlen], fun hl0 => ?_⟩
    rw [hlen] at hl0
    have hat : ∀ i (hi : i < len), ∃ pv, (∀ j, j < 5 → W.cell? ((a.add (i * 5)).add j) = (opCells (T i) pv)[j]?) ∧ (T i).fill < 256 ∧ IntsAt W pv (T i).picks := fun i hi => by
      obtain ⟨pv, h1, h2⟩ := hT i hi
      exact ⟨pv, fun j hj => (World.cells?_some h1).2.2 j hj, h2⟩
    obtain ⟨_, h00, _⟩ := hat 0 hl0
    have h00 := h00 0 (by decide)
    rw [Nat.zero_mul] at h00
    have ha0 : (a.add 0).add 0 = a := by simp [Addr.add]
    rw [ha0] at h00
    obtain ⟨ha, hbl⟩ := cell_spot h00
    refine ⟨a.block, a.off, by rw [← ha], hbl, fun i G hG => ?_⟩
    rw [List.getElem?_map] at hG
    obtain ⟨i', hi', rfl⟩ := Option.map_eq_some_iff.1 hG
    have hil : i < len := by have := (List.getElem?_eq_some_iff.1 hi').1; simpa using this
    have : i' = i := by rw [List.getElem?_range hil] at hi'; cases hi'; rfl
    subst this
    obtain ⟨pv, h1, h2, h3⟩ := hat i' hil
    rw [ha] at h1
    have a0 := h1 0 (by decide)
    have a1 := h1 1 (by decide)
    have a2 := h1 2 (by decide)
    have a3 := h1 3 (by decide)
    have a4 := h1 4 (by decide)
    rw [Addr.add_lit, Addr.add_lit] at a0 a1 a2 a3 a4
    exact ⟨pv, a0, a1, a2, a3, a4, h2, h3⟩

set_option maxRecDepth 100000 in
/-- A slice of numbers that comes in as an argument. -/
theorem open_picks {H : Type} {enc : TypeId × Value → H} {W : World} {v : Value} {d : DataW H} {ps : List MemPlace} {base : Nat} (hv : Value.okWide Try.prog W .any base 35 v)
    (h : DataW.Trod enc Try.prog W 0 (fun _ => true) true 35 v d ps) : ∃ P : List Int, IntsAt W v P := by
  obtain ⟨a0, len, cap, rfl⟩ := okWide_slice Try.underlying35 hv
  obtain ⟨fuel, hf⟩ := h
  obtain ⟨pv, P, hcs, hP⟩ := open_ints hf
  simp [Value.cells] at hcs
  rw [hcs]
  exact ⟨P, hP⟩

set_option maxRecDepth 100000 in
/-- Behind what wrote nothing of the arguments' world. -/
theorem OpAt.below {W W' : World} {b o : Nat} {op : PlainOp} (h : OpAt W b o op) (hb : b < W.heap.size) (hB : Below W.heap.size W W') : ∃ A n c, W'.cell? ⟨b, o, none⟩ = some (.int .i64 op.kind) ∧ W'.cell? ⟨b, o + 1, none⟩ = some (.int .i64 op.i) ∧ W'.cell? ⟨b, o + 2, none⟩ = some (.int .u8 op.fill) ∧ W'.cell? ⟨b, o + 3, none⟩ = some (.int .i64 op.size) ∧ W'.cell? ⟨b, o + 4, none⟩ = some (.slice A n c) ∧
    OpOk W op (.agg #[.int .i64 op.kind, .int .i64 op.i, .int .u8 op.fill, .int .i64 op.size, .slice A n c]) := by
  obtain ⟨pv, h0, h1, h2, h3, h4, h5, h6⟩ := h
  have h6' := h6
  obtain ⟨A, c, rfl, _⟩ := h6'
  refine ⟨A, _, c, ?_, ?_, ?_, ?_, ?_, _, rfl, h5, h6⟩
  · exact (hB.cell (p := ⟨b, o, none⟩) hb).trans h0
  · exact (hB.cell (p := ⟨b, o + 1, none⟩) hb).trans h1
  · exact (hB.cell (p := ⟨b, o + 2, none⟩) hb).trans h2
  · exact (hB.cell (p := ⟨b, o + 3, none⟩) hb).trans h3
  · exact (hB.cell (p := ⟨b, o + 4, none⟩) hb).trans h4
theorem op_blk {w : World} {j : Nat} {x0 x1 x2 x3 x4 : Value} (h : Blk w j 37 #[x0, x1, x2, x3, x4]) : w.cell? ⟨j, 0, none⟩ = some x0 ∧ w.cell? ⟨j, 1, none⟩ = some x1 ∧ w.cell? ⟨j, 2, none⟩ = some x2 ∧ w.cell? ⟨j, 3, none⟩ = some x3 ∧ w.cell? ⟨j, 4, none⟩ = some x4 :=
  ⟨h.cell 0, h.cell 1, h.cell 2, h.cell 3, h.cell 4⟩
end Go.Proofs.Ytgieiehpnjhkoaa
