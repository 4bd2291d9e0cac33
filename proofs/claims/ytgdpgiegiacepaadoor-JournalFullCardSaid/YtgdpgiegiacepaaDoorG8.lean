/-
  Layer 23 (device): a script and a size that come in as arguments.
  Layer 25 (journal): a script and a step that come in as arguments.
-/
import Derived.Test.YtgdpgiegiacepaaDoorG7
import Derived.ProofKit
import Derived.Deep.Slices
namespace Go.Proofs.YtgdpgiegiacepaaDoor
open Go.ChangeShapes Go.WideShapes Go.ChangeAt Go.RowKit Go.Deep

theorem Tryd.own : ownKnob Tryd.prog.godebug = none := by kernel_rfl
theorem Tryd.laidOut : laidOutB Tryd.prog = true := by kernel_rfl
theorem cellsInt : Tryd.prog.cellsOf 3 = 1 := by kernel_rfl
theorem cellsInts : Tryd.prog.cellsOf 28 = 1 := by kernel_rfl
theorem cellsU8 : Tryd.prog.cellsOf 5 = 1 := by kernel_rfl
theorem cellsBool : Tryd.prog.cellsOf 4 = 1 := by kernel_rfl
theorem cellsString : Tryd.prog.cellsOf 9 = 1 := by kernel_rfl
instance : Inhabited DOp := ⟨⟨0, 0, 0, 0, false, []⟩⟩

/-- The cells of one operation. -/
def dopCells (op : DOp) (pv : Value) : List Value := [.int .i64 op.kind, .int .i64 op.a, .int .i64 op.b, .int .u8 op.fill, .bool op.short, pv]
/-- An operation's numbers are numbers of the machine. -/
def DOp.ok (op : DOp) : Prop := op.fill < 256 ∧ -9223372036854775808 ≤ op.a ∧ op.a ≤ 9223372036854775807
/-- One operation in memory, at offset o of block b. -/
def DOpAt (W : World) (b o : Nat) (op : DOp) : Prop :=
  ∃ pv, (∀ j, j < 6 → W.cell? ⟨b, o + j, none⟩ = (dopCells op pv)[j]?) ∧ op.ok ∧ IntsAt W pv op.picks
/-- A script in memory. -/
def DOpsAt (W : World) (v : Value) (ops : List DOp) : Prop :=
  ∃ A c, v = .slice A ops.length c ∧ (0 < ops.length → ∃ b o, A = some ⟨b, o, none⟩ ∧ b < W.heap.size ∧ ∀ i op, ops[i]? = some op → DOpAt W b (o + i * 6) op)

theorem cell_spot {w : World} {a : Addr} {v : Value} (h : w.cell? a = some v) : a = ⟨a.block, a.off, none⟩ ∧ a.block < w.heap.size := by
  obtain ⟨b, o, sp⟩ := a
  unfold World.cell? at h
  split at h
  · rename_i c e f hh
    split at h
    · cases h
    · rename_i hsp
      have hs : sp = none := by
        cases sp with
        | none => rfl
        | some x => simp at hsp
      exact ⟨by rw [hs], (Array.getElem?_eq_some_iff.1 hh).1⟩
  · cases h

section
variable {H : Type} {enc : TypeId × Value → H} {w : World} {base : Nat} {spare : Nat → Bool} {held : Bool}
theorem u8_nat {a : Int} (h : (Lit.int .u8 a).wf = true) : ∃ n : Nat, a = n ∧ n < 256 := by
  simp [Lit.wf, IntKind.min, IntKind.max, IntKind.signed, IntKind.bits] at h
  exact ⟨a.toNat, by omega, by omega⟩
theorem i64_in {a : Int} (h : (Lit.int .i64 a).wf = true) : -9223372036854775808 ≤ a ∧ a ≤ 9223372036854775807 := by
  simp [Lit.wf, IntKind.min, IntKind.max, IntKind.signed, IntKind.bits] at h
  omega
theorem open_ints {m : Nat} {cs : List Value} {x : DataW H × List MemPlace} (h : DataW.trod enc Tryd.prog w base spare held m 28 cs = some x) :
    ∃ (pv : Value) (P : List Int), cs = [pv] ∧ IntsAt w pv P := by
  rcases open_slice1 Tryd.underlying28 cellsInt h with ⟨rfl, _⟩ | ⟨a, len, cap, m', n, V, D, Pl, rfl, _, hl, hm, hmm, _, hx⟩
  · exact ⟨_, [], rfl, none, 0, rfl, Nat.le_refl _, Nat.zero_le _, fun h => absurd h (by simp)⟩
  · have hml : len ≤ m' := by
      cases hsp : spare a.block with
      | true => rw [hmm, hsp]; simpa using hl
      | false => rw [hmm, hsp]; simp
    obtain ⟨T, hT⟩ := choose_lt (α := Int) (n := len) (p := fun i T => w.cell? (a.add i) = some (.int .i64 T)) (fun i hi => by
      obtain ⟨h1, h2⟩ := hx i (by omega)
      obtain ⟨k, hk, _, _⟩ := DataW.trod_int Tryd.underlying3 h2
      simp at hk
      exact ⟨k, by rw [h1, hk]⟩)
    have hlen : ((List.range len).map T).length = len := by rw [List.length_map, List.length_range]
    refine ⟨_, (List.range len).map T, rfl, some a, cap, by rw [hlen], by rw [hlen]; exact hl, hm, fun h0 => ?_⟩
    rw [hlen] at h0
    have h00 := hT 0 h0
    have ha0 : a.add 0 = a := by simp [Addr.add]
    rw [ha0] at h00
    obtain ⟨ha, hbl⟩ := cell_spot h00
    refine ⟨a.block, a.off, by rw [← ha], hbl, fun i y hy => ?_⟩
    rw [List.getElem?_map] at hy
    obtain ⟨i', hi', rfl⟩ := Option.map_eq_some_iff.1 hy
    have hil : i < len := by have := (List.getElem?_eq_some_iff.1 hi').1; simpa using this
    have : i' = i := by rw [List.getElem?_range hil] at hi'; cases hi'; rfl
    subst this
    have := hT i' hil
    rw [ha, Addr.add_lit] at this
    exact this

end

set_option maxRecDepth 100000 in
/-- A slice of numbers that comes in as an argument. -/
theorem open_picks {H : Type} {enc : TypeId × Value → H} {W : World} {v : Value} {d : DataW H} {ps : List MemPlace} {base : Nat} (hv : Value.okWide Tryd.prog W .any base 28 v)
    (h : DataW.Trod enc Tryd.prog W 0 (fun _ => true) true 28 v d ps) : ∃ P : List Int, IntsAt W v P := by
  obtain ⟨a0, len, cap, rfl⟩ := okWide_slice Tryd.underlying28 hv
  obtain ⟨fuel, hf⟩ := h
  obtain ⟨pv, P, hcs, hP⟩ := open_ints hf
  simp [Value.cells] at hcs
  rw [hcs]
  exact ⟨P, hP⟩
/-- An operation as it lies among the arguments (the world w0). -/
def DOpOk (w0 : World) (o : DOp) (x : Value) : Prop := ∃ A n c, x = .agg #[.int .i64 o.kind, .int .i64 o.a, .int .i64 o.b, .int .u8 o.fill, .bool o.short, .slice A n c] ∧ o.ok ∧ IntsAt w0 (.slice A n c) o.picks
set_option maxRecDepth 100000 in
/-- Behind what wrote nothing of the arguments' world. -/
theorem DOpAt.below {W W' : World} {b o : Nat} {op : DOp} (h : DOpAt W b o op) (hb : b < W.heap.size) (hB : Below W.heap.size W W') : ∃ A n c, W'.cell? ⟨b, o, none⟩ = some (.int .i64 op.kind) ∧ W'.cell? ⟨b, o + 1, none⟩ = some (.int .i64 op.a) ∧ W'.cell? ⟨b, o + 2, none⟩ = some (.int .i64 op.b) ∧ W'.cell? ⟨b, o + 3, none⟩ = some (.int .u8 op.fill) ∧ W'.cell? ⟨b, o + 4, none⟩ = some (.bool op.short) ∧ W'.cell? ⟨b, o + 5, none⟩ = some (.slice A n c) ∧
    DOpOk W op (.agg #[.int .i64 op.kind, .int .i64 op.a, .int .i64 op.b, .int .u8 op.fill, .bool op.short, .slice A n c]) := by
  obtain ⟨pv, h0, h5, h6⟩ := h
  have h6' := h6
  obtain ⟨A, c, rfl, _⟩ := h6'
  refine ⟨A, _, c, ?_, ?_, ?_, ?_, ?_, ?_, A, _, c, rfl, h5, h6⟩
  · exact (hB.cell (p := ⟨b, o, none⟩) hb).trans (h0 0 (by decide))
  · exact (hB.cell (p := ⟨b, o + 1, none⟩) hb).trans (h0 1 (by decide))
  · exact (hB.cell (p := ⟨b, o + 2, none⟩) hb).trans (h0 2 (by decide))
  · exact (hB.cell (p := ⟨b, o + 3, none⟩) hb).trans (h0 3 (by decide))
  · exact (hB.cell (p := ⟨b, o + 4, none⟩) hb).trans (h0 4 (by decide))
  · exact (hB.cell (p := ⟨b, o + 5, none⟩) hb).trans (h0 5 (by decide))
end Go.Proofs.YtgdpgiegiacepaaDoor
namespace Go.Proofs.YtgdpgiegiacepaaDoor
open Go.ChangeShapes Go.WideShapes Go.ChangeAt Go.RowKit Go.Deep

theorem cellsStep : Tryd.prog.cellsOf 30 = 5 := by kernel_rfl
/-- A step. -/
structure JStep where
  kind : Int
  n : Int
  size : Int
  fill : Nat
  picks : List Int
instance : Inhabited JStep := ⟨⟨0, 0, 0, 0, []⟩⟩

/-- The cells of one step. -/
def stepCells (op : JStep) (pv : Value) : List Value := [.int .i64 op.kind, .int .i64 op.n, .int .i64 op.size, .int .u8 op.fill, pv]
/-- An step's numbers are numbers of the machine. -/
def JStep.ok (op : JStep) : Prop := op.fill < 256 ∧ -9223372036854775808 ≤ op.n ∧ op.n ≤ 9223372036854775807
/-- One step in memory, at offset o of block b. -/
def JStepAt (W : World) (b o : Nat) (op : JStep) : Prop :=
  ∃ pv, (∀ j, j < 5 → W.cell? ⟨b, o + j, none⟩ = (stepCells op pv)[j]?) ∧ op.ok ∧ IntsAt W pv op.picks
/-- A script in memory. -/
def JStepsAt (W : World) (v : Value) (ops : List JStep) : Prop :=
  ∃ A c, v = .slice A ops.length c ∧ (0 < ops.length → ∃ b o, A = some ⟨b, o, none⟩ ∧ b < W.heap.size ∧ ∀ i op, ops[i]? = some op → JStepAt W b (o + i * 5) op)

section
variable {H : Type} {enc : TypeId × Value → H} {w : World} {base : Nat} {spare : Nat → Bool} {held : Bool}
set_option maxRecDepth 100000 in
theorem step_cells {m : Nat} {cs : List Value} {x : DataW H × List MemPlace} (h : DataW.trod enc Tryd.prog w base spare held m 30 cs = some x) :
    ∃ (op : JStep) (pv : Value), cs = stepCells op pv ∧ op.ok ∧ IntsAt w pv op.picks := by
  obtain ⟨xs, n, _, _, hl, hlen, hf⟩ := DataW.trod_struct Tryd.underlying30 h
  rw [cellsStep] at hl
  have f0 : DataW.trod enc Tryd.prog w base spare held n 3 ((cs.drop 0).take (Tryd.prog.cellsOf 3)) = xs[0]? := hf 0 _ rfl
  have f1 : DataW.trod enc Tryd.prog w base spare held n 3 ((cs.drop 1).take (Tryd.prog.cellsOf 3)) = xs[1]? := hf 1 _ rfl
  have f2 : DataW.trod enc Tryd.prog w base spare held n 3 ((cs.drop 2).take (Tryd.prog.cellsOf 3)) = xs[2]? := hf 2 _ rfl
  have f3 : DataW.trod enc Tryd.prog w base spare held n 5 ((cs.drop 3).take (Tryd.prog.cellsOf 5)) = xs[3]? := hf 3 _ rfl
  have f4 : DataW.trod enc Tryd.prog w base spare held n 28 ((cs.drop 4).take (Tryd.prog.cellsOf 28)) = xs[4]? := hf 4 _ rfl
  rw [cellsInt] at f0 f1 f2
  rw [cellsU8] at f3
  rw [cellsInts] at f4
  have hx : ∀ i, i < 5 → ∃ y, xs[i]? = some y := fun i hi => ⟨_, List.getElem?_eq_getElem (by rw [hlen]; exact hi)⟩
  obtain ⟨y0, e0⟩ := hx 0 (by decide)
  obtain ⟨y1, e1⟩ := hx 1 (by decide)
  obtain ⟨y2, e2⟩ := hx 2 (by decide)
  obtain ⟨y3, e3⟩ := hx 3 (by decide)
  obtain ⟨y4, e4⟩ := hx 4 (by decide)
  obtain ⟨a, ha, _, wa⟩ := DataW.trod_int Tryd.underlying3 (f0.trans e0)
  obtain ⟨b, hb, _, wb⟩ := DataW.trod_int Tryd.underlying3 (f1.trans e1)
  obtain ⟨c, hc, _, wc⟩ := DataW.trod_int Tryd.underlying3 (f2.trans e2)
  obtain ⟨d, hd, _, wd⟩ := DataW.trod_int Tryd.underlying5 (f3.trans e3)
  obtain ⟨pv, P, hp, hP⟩ := open_ints (f4.trans e4)
  obtain ⟨fl, rfl, hfl⟩ := u8_nat wd
  refine ⟨⟨a, b, c, fl, P⟩, pv, ?_, ⟨hfl, i64_in wb⟩, hP⟩
  match cs, hl with
  | [c0, c1, c2, c3, c4], _ =>
    simp at ha hb hc hd hp
    rw [ha, hb, hc, hd, hp]
    rfl
end

set_option maxRecDepth 100000 in
theorem open_steps {H : Type} {enc : TypeId × Value → H} {W : World} {base : Nat} {v : Value} {d : DataW H} {ps : List MemPlace} (hv : Value.okWide Tryd.prog W .any base 22 v)
    (h : DataW.Trod enc Tryd.prog W 0 (fun _ => true) true 22 v d ps) : ∃ ops : List JStep, JStepsAt W v ops ∧ ∀ (i : Nat) (o : JStep), ops[i]? = some o → o.ok := by
  obtain ⟨a0, len, cap, rfl⟩ := okWide_slice Tryd.underlying22 hv
  obtain ⟨fuel, hf⟩ := h
  rcases open_slice Tryd.underlying22 hf with ⟨hcs, _⟩ | ⟨a, len', cap', m, n, D, Pl, hcs, _, hl, hm, hmm, _, hx⟩
  · simp [Value.cells] at hcs
    obtain ⟨rfl, rfl, rfl⟩ := hcs
    exact ⟨[], ⟨none, 0, rfl, fun h => absurd h (by simp)⟩, fun i o h => by simp at h⟩
  · simp [Value.cells] at hcs
    obtain ⟨rfl, rfl, rfl⟩ := hcs
    simp only [if_true] at hmm
    rw [cellsStep] at hx
    obtain ⟨T, hT⟩ := choose_lt (α := JStep) (n := len) (p := fun i T => ∃ pv, W.cells? 0 (a.add (i * 5)) 5 = some (stepCells T pv) ∧ T.ok ∧ IntsAt W pv T.picks) (fun i hi => by
      obtain ⟨cs', h1, h2⟩ := hx i (by omega)
      obtain ⟨T, pv, rfl, h3, h4⟩ := step_cells h2
      exact ⟨T, pv, h1, h3, h4⟩)
    have hlen : ((List.range len).map T).length = len := by rw [List.length_map, List.length_range]
    have hget : ∀ i G, ((List.range len).map T)[i]? = some G → i < len ∧ T i = G := fun i G hG => by
      rw [List.getElem?_map] at hG
      obtain ⟨i', hi', e⟩ := Option.map_eq_some_iff.1 hG
      have hil : i < len := by have := (List.getElem?_eq_some_iff.1 hi').1; simpa using this
      have : i' = i := by rw [List.getElem?_range hil] at hi'; cases hi'; rfl
      subst this
      exact ⟨hil, e⟩
    have hat : ∀ i (hi : i < len), ∃ pv, (∀ j, j < 5 → W.cell? ((a.add (i * 5)).add j) = (stepCells (T i) pv)[j]?) ∧ (T i).ok ∧ IntsAt W pv (T i).picks := fun i hi => by
      obtain ⟨pv, h1, h2⟩ := hT i hi
      exact ⟨pv, fun j hj => (World.cells?_some h1).2.2 j hj, h2⟩
    refine ⟨(List.range len).map T, ⟨_, cap, by rw [hlen], fun hl0 => ?_⟩, fun i o ho => ?_⟩
    · rw [hlen] at hl0
      obtain ⟨_, h00, _⟩ := hat 0 hl0
      have h00 := h00 0 (by decide)
      rw [Nat.zero_mul] at h00
      have ha0 : (a.add 0).add 0 = a := by simp [Addr.add]
      rw [ha0] at h00
      obtain ⟨ha, hbl⟩ := cell_spot h00
      refine ⟨a.block, a.off, by rw [← ha], hbl, fun i G hG => ?_⟩
      obtain ⟨hil, rfl⟩ := hget i G hG
      obtain ⟨pv, h1, h2, h3⟩ := hat i hil
      refine ⟨pv, fun j hj => ?_, h2, h3⟩
      have := h1 j hj
      rw [ha, Addr.add_lit, Addr.add_lit] at this
      exact this
    · obtain ⟨hil, rfl⟩ := hget i o ho
      obtain ⟨_, _, h2, _⟩ := hat i hil
      exact h2

set_option maxRecDepth 100000 in
/-- A step that comes in as an argument. -/
theorem open_step {H : Type} {enc : TypeId × Value → H} {W : World} {v : Value} {d : DataW H} {ps : List MemPlace} {base : Nat} (hv : Value.okWide Tryd.prog W .any base 30 v)
    (h : DataW.Trod enc Tryd.prog W 0 (fun _ => true) true 30 v d ps) : ∃ (o : JStep) (A : Option Addr) (n c : Nat), v = .agg #[.int .i64 o.kind, .int .i64 o.n, .int .i64 o.size, .int .u8 o.fill, .slice A n c] ∧ o.ok ∧ IntsAt W (.slice A n c) o.picks := by
  obtain ⟨cs, rfl, hs⟩ := okWide_struct Tryd.underlying30 hv
  obtain ⟨fuel, hf⟩ := h
  obtain ⟨o, pv, e, h1, h2⟩ := step_cells hf
  have hcs : (Value.agg cs).cells.toList = cs.toList := by simp [Value.cells]
  rw [hcs] at e
  have h2' := h2
  obtain ⟨A, c, rfl, _⟩ := h2'
  refine ⟨o, A, _, c, ?_, h1, h2⟩
  obtain ⟨l⟩ := cs
  have e' : l = _ := e
  rw [e']
  rfl

/-- An step as it lies among the arguments (the world w0). -/
def JStepOk (w0 : World) (o : JStep) (x : Value) : Prop := ∃ A n c, x = .agg #[.int .i64 o.kind, .int .i64 o.n, .int .i64 o.size, .int .u8 o.fill, .slice A n c] ∧ o.ok ∧ IntsAt w0 (.slice A n c) o.picks
set_option maxRecDepth 100000 in
/-- Behind what wrote nothing of the arguments' world. -/
theorem JStepAt.below {W W' : World} {b o : Nat} {op : JStep} (h : JStepAt W b o op) (hb : b < W.heap.size) (hB : Below W.heap.size W W') : ∃ A n c, W'.cell? ⟨b, o, none⟩ = some (.int .i64 op.kind) ∧ W'.cell? ⟨b, o + 1, none⟩ = some (.int .i64 op.n) ∧ W'.cell? ⟨b, o + 2, none⟩ = some (.int .i64 op.size) ∧ W'.cell? ⟨b, o + 3, none⟩ = some (.int .u8 op.fill) ∧ W'.cell? ⟨b, o + 4, none⟩ = some (.slice A n c) ∧
    JStepOk W op (.agg #[.int .i64 op.kind, .int .i64 op.n, .int .i64 op.size, .int .u8 op.fill, .slice A n c]) := by
  obtain ⟨pv, h0, h5, h6⟩ := h
  have h6' := h6
  obtain ⟨A, c, rfl, _⟩ := h6'
  refine ⟨A, _, c, ?_, ?_, ?_, ?_, ?_, A, _, c, rfl, h5, h6⟩
  · exact (hB.cell (p := ⟨b, o, none⟩) hb).trans (h0 0 (by decide))
  · exact (hB.cell (p := ⟨b, o + 1, none⟩) hb).trans (h0 1 (by decide))
  · exact (hB.cell (p := ⟨b, o + 2, none⟩) hb).trans (h0 2 (by decide))
  · exact (hB.cell (p := ⟨b, o + 3, none⟩) hb).trans (h0 3 (by decide))
  · exact (hB.cell (p := ⟨b, o + 4, none⟩) hb).trans (h0 4 (by decide))
theorem jpicks_rest {w0 w : World} {pv : Value} {P : List Int} {b g : Nat} (h : IntsAt w0 pv P) (hB : Below w0.heap.size w0 w) (hbg : b ≠ g) (hb : b < w.heap.size) (hg : w0.heap.size ≤ g) :
    ∃ pb po, RestAt pv P.length 0 pb po ∧ pb ≠ g ∧ pb < w.heap.size ∧ ∀ i x, P[i]? = some x → w.cell? ⟨pb, po + i, none⟩ = some (.int .i64 x) := by
  obtain ⟨A, c, rfl, h1, h2, h3⟩ := h
  by_cases hP : 0 < P.length
  · obtain ⟨pb, po, rfl, hl, hc⟩ := h3 hP
    refine ⟨pb, po, ⟨_, c, rfl, h1, h2, fun _ => rfl⟩, by omega, Nat.lt_of_lt_of_le hl hB.size, fun i x hx => ?_⟩
    exact (hB.cell (p := ⟨pb, po + i, none⟩) hl).trans (hc i x hx)
  · refine ⟨b, 0, ⟨A, c, rfl, h1, h2, fun e => absurd e hP⟩, hbg, hb, fun i x hx => ?_⟩
    have := (List.getElem?_eq_some_iff.1 hx).1
    omega
end Go.Proofs.YtgdpgiegiacepaaDoor
