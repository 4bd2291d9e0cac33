/-
  Layer 23 (device): a script and a size that come in as arguments.
-/
import Derived.Test.YtgenifcikfbfhaaG5
import Derived.ProofKit
import Derived.Deep.Slices
namespace Go.Proofs.Ytgenifcikfbfhaa
open Go.ChangeShapes Go.WideShapes Go.ChangeAt Go.RowKit Go.Deep

theorem Try.own : ownKnob Try.prog.godebug = none := by kernel_rfl
theorem Try.laidOut : laidOutB Try.prog = true := by kernel_rfl
theorem cellsOp : Try.prog.cellsOf 44 = 6 := by kernel_rfl
theorem cellsInt : Try.prog.cellsOf 3 = 1 := by kernel_rfl
theorem cellsInts : Try.prog.cellsOf 25 = 1 := by kernel_rfl
theorem cellsU8 : Try.prog.cellsOf 5 = 1 := by kernel_rfl
theorem cellsBool : Try.prog.cellsOf 4 = 1 := by kernel_rfl
theorem cellsString : Try.prog.cellsOf 9 = 1 := by kernel_rfl
instance : Inhabited DOp := ⟨⟨0, 0, 0, 0, false, []⟩⟩

/-- The cells of one operation. -/
def dopCells (op : DOp) (pv : Value) : List Value := [.int .i64 op.kind, .int .i64 op.a, .int .i64 op.b, .int .u8 op.fill, .bool op.short, pv]
/-- An operation's numbers are numbers of the machine. -/
def DOp.ok (op : DOp) : Prop := op.fill < 256 ∧ -9223372036854775808 ≤ op.a ∧ op.a ≤ 9223372036854775807
/-- One operation in memory, at offset o of block b. -/
def DOpAt (W : World) (b o : Nat) (op : DOp) : Prop :=
  ∃ pv, (∀ j, j < 6 → W.cell? ⟨b, o + j, none⟩ = (dopCells op pv)[j]?) ∧ op.ok ∧ IntsAt W pv op.picks
/-- A script in memory. -/
def DOpsAt (W : World) (v : Value) (ops : List DOp) : Prop :=
  ∃ A c, v = .slice A ops.length c ∧ (0 < ops.length → ∃ b o, A = some ⟨b, o, none⟩ ∧ b < W.heap.size ∧ ∀ i op, ops[i]? = some op → DOpAt W b (o + i * 6) op)

theorem cell_spot {w : World} {a : Addr} {v : Value} (h : w.cell? a = some v) : a = ⟨a.block, a.off, none⟩ ∧ a.block < w.heap.size := by
  obtain ⟨b, o, sp⟩ := a
  unfold World.cell? at h
  split at h
  · rename_i c e f hh
    split at h
    · cases h
    · rename_i hsp
      have hs : sp = none := by
        cases sp with
        | none => rfl
        | some x => simp at hsp
      exact ⟨by rw [hs], (Array.getElem?_eq_some_iff.1 hh).1⟩
  · cases h

section
variable {H : Type} {enc : TypeId × Value → H} {w : World} {base : Nat} {spare : Nat → Bool} {held : Bool}
theorem u8_nat {a : Int} (h : (Lit.int .u8 a).wf = true) : ∃ n : Nat, a = n ∧ n < 256 := by
  simp [Lit.wf, IntKind.min, IntKind.max, IntKind.signed, IntKind.bits] at h
  exact ⟨a.toNat, by omega, by omega⟩
theorem i64_in {a : Int} (h : (Lit.int .i64 a).wf = true) : -9223372036854775808 ≤ a ∧ a ≤ 9223372036854775807 := by
  simp [Lit.wf, IntKind.min, IntKind.max, IntKind.signed, IntKind.bits] at h
  omega
theorem open_ints {m : Nat} {cs : List Value} {x : DataW H × List MemPlace} (h : DataW.trod enc Try.prog w base spare held m 25 cs = some x) :
    ∃ (pv : Value) (P : List Int), cs = [pv] ∧ IntsAt w pv P := by
  rcases open_slice1 Try.underlying25 cellsInt h with ⟨rfl, _⟩ | ⟨a, len, cap, m', n, V, D, Pl, rfl, _, hl, hm, hmm, _, hx⟩
  · exact ⟨_, [], rfl, none, 0, rfl, Nat.le_refl _, Nat.zero_le _, fun h => absurd h (by simp)⟩
  · have hml : len ≤ m' := by
      cases hsp : spare a.block with
      | true => rw [hmm, hsp]; simpa using hl
      | false => rw [hmm, hsp]; simp
    obtain ⟨T, hT⟩ := choose_lt (α := Int) (n := len) (p := fun i T => w.cell? (a.add i) = some (.int .i64 T)) (fun i hi => by
      obtain ⟨h1, h2⟩ := hx i (by omega)
      obtain ⟨k, hk, _, _⟩ := DataW.trod_int Try.underlying3 h2
      simp at hk
      exact ⟨k, by rw [h1, hk]⟩)
    have hlen : ((List.range len).map T).length = len := by rw [List.length_map, List.length_range]
    refine ⟨_, (List.range len).map T, rfl, some a, cap, by rw [hlen], by rw [hlen]; exact hl, hm, fun h0 => ?_⟩
    rw [hlen] at h0
    have h00 := hT 0 h0
    have ha0 : a.add 0 = a := by simp [Addr.add]
    rw [ha0] at h00
    obtain ⟨ha, hbl⟩ := cell_spot h00
    refine ⟨a.block, a.off, by rw [← ha], hbl, fun i y hy => ?_⟩
    rw [List.getElem?_map] at hy
    obtain ⟨i', hi', rfl⟩ := Option.map_eq_some_iff.1 hy
    have hil : i < len := by have := (List.getElem?_eq_some_iff.1 hi').1; simpa using this
    have : i' = i := by rw [List.getElem?_range hil] at hi'; cases hi'; rfl
    subst this
    have := hT i' hil
    rw [ha, Addr.add_lit] at this
    exact this

set_option maxRecDepth 100000 in
theorem dop_cells {m : Nat} {cs : List Value} {x : DataW H × List MemPlace} (h : DataW.trod enc Try.prog w base spare held m 44 cs = some x) :
    ∃ (op : DOp) (pv : Value), cs = dopCells op pv ∧ op.ok ∧ IntsAt w pv op.picks := by
  obtain ⟨xs, n, _, _, hl, hlen, hf⟩ := DataW.trod_struct Try.underlying44 h
  rw [cellsOp] at hl
  have f0 : DataW.trod enc Try.prog w base spare held n 3 ((cs.drop 0).take (Try.prog.cellsOf 3)) = xs[0]? := hf 0 _ rfl
  have f1 : DataW.trod enc Try.prog w base spare held n 3 ((cs.drop 1).take (Try.prog.cellsOf 3)) = xs[1]? := hf 1 _ rfl
  have f2 : DataW.trod enc Try.prog w base spare held n 3 ((cs.drop 2).take (Try.prog.cellsOf 3)) = xs[2]? := hf 2 _ rfl
  have f3 : DataW.trod enc Try.prog w base spare held n 5 ((cs.drop 3).take (Try.prog.cellsOf 5)) = xs[3]? := hf 3 _ rfl
  have f4 : DataW.trod enc Try.prog w base spare held n 4 ((cs.drop 4).take (Try.prog.cellsOf 4)) = xs[4]? := hf 4 _ rfl
  have f5 : DataW.trod enc Try.prog w base spare held n 25 ((cs.drop 5).take (Try.prog.cellsOf 25)) = xs[5]? := hf 5 _ rfl
  rw [cellsInt] at f0 f1 f2
  rw [cellsU8] at f3
  rw [cellsBool] at f4
  rw [cellsInts] at f5
  have hx : ∀ i, i < 6 → ∃ y, xs[i]? = some y := fun i hi => ⟨_, List.getElem?_eq_getElem (by rw [hlen]; exact hi)⟩
  obtain ⟨y0, e0⟩ := hx 0 (by decide)
  obtain ⟨y1, e1⟩ := hx 1 (by decide)
  obtain ⟨y2, e2⟩ := hx 2 (by decide)
  obtain ⟨y3, e3⟩ := hx 3 (by decide)
  obtain ⟨y4, e4⟩ := hx 4 (by decide)
  obtain ⟨y5, e5⟩ := hx 5 (by decide)
  obtain ⟨a, ha, _, wa⟩ := DataW.trod_int Try.underlying3 (f0.trans e0)
  obtain ⟨b, hb, _, wb⟩ := DataW.trod_int Try.underlying3 (f1.trans e1)
  obtain ⟨c, hc, _, wc⟩ := DataW.trod_int Try.underlying3 (f2.trans e2)
  obtain ⟨d, hd, _, wd⟩ := DataW.trod_int Try.underlying5 (f3.trans e3)
  obtain ⟨s, hs, _⟩ := DataW.trod_bool Try.underlying4 (f4.trans e4)
  obtain ⟨pv, P, hp, hP⟩ := open_ints (f5.trans e5)
  obtain ⟨fl, rfl, hfl⟩ := u8_nat wd
  refine ⟨⟨a, b, c, fl, s, P⟩, pv, ?_, ⟨hfl, i64_in wb⟩, hP⟩
  match cs, hl with
  | [c0, c1, c2, c3, c4, c5], _ =>
    simp at ha hb hc hd hs hp
    rw [ha, hb, hc, hd, hs, hp]
    rfl
end

set_option maxRecDepth 100000 in
theorem open_dops {H : Type} {enc : TypeId × Value → H} {W : World} {base : Nat} {v : Value} {d : DataW H} {ps : List MemPlace} (hv : Value.okWide Try.prog W .any base 24 v)
    (h : DataW.Trod enc Try.prog W 0 (fun _ => true) true 24 v d ps) : ∃ ops : List DOp, DOpsAt W v ops ∧ OpsIn ops := by
  obtain ⟨a0, len, cap, rfl⟩ := okWide_slice Try.underlying24 hv
  obtain ⟨fuel, hf⟩ := h
  rcases open_slice Try.underlying24 hf with ⟨hcs, _⟩ | ⟨a, len', cap', m, n, D, Pl, hcs, _, hl, hm, hmm, _, hx⟩
  · simp [Value.cells] at hcs
    obtain ⟨rfl, rfl, rfl⟩ := hcs
    exact ⟨[], ⟨none, 0, rfl, fun h => absurd h (by simp)⟩, fun i o h => by simp at h⟩
  · simp [Value.cells] at hcs
    obtain ⟨rfl, rfl, rfl⟩ := hcs
    simp only [if_true] at hmm
    rw [cellsOp] at hx
    obtain ⟨T, hT⟩ := choose_lt (α := DOp) (n := len) (p := fun i T => ∃ pv, W.cells? 0 (a.add (i * 6)) 6 = some (dopCells T pv) ∧ T.ok ∧ IntsAt W pv T.picks) (fun i hi => by
      obtain ⟨cs', h1, h2⟩ := hx i (by omega)
      obtain ⟨T, pv, rfl, h3, h4⟩ := dop_cells h2
      exact ⟨T, pv, h1, h3, h4⟩)
    have hlen : ((List.range len).map T).length = len := by rw [List.length_map, List.length_range]
    have hget : ∀ i G, ((List.range len).map T)[i]? = some G → i < len ∧ T i = G := fun i G hG => by
      rw [List.getElem?_map] at hG
      obtain ⟨i', hi', e⟩ := Option.map_eq_some_iff.1 hG
      have hil : i < len := by have := (List.getElem?_eq_some_iff.1 hi').1; simpa using this
      have : i' = i := by rw [List.getElem?_range hil] at hi'; cases hi'; rfl
      subst this
      exact ⟨hil, e⟩
    have hat : ∀ i (hi : i < len), ∃ pv, (∀ j, j < 6 → W.cell? ((a.add (i * 6)).add j) = (dopCells (T i) pv)[j]?) ∧ (T i).ok ∧ IntsAt W pv (T i).picks := fun i hi => by
      obtain ⟨pv, h1, h2⟩ := hT i hi
      exact ⟨pv, fun j hj => (World.cells?_some h1).2.2 j hj, h2⟩
    refine ⟨(List.range len).map T, ⟨_, cap, by rw [hlen], fun hl0 => ?_⟩, fun i o ho => ?_⟩
    · rw [hlen] at hl0
      obtain ⟨_, h00, _⟩ := hat 0 hl0
      have h00 := h00 0 (by decide)
      rw [Nat.zero_mul] at h00
      have ha0 : (a.add 0).add 0 = a := by simp [Addr.add]
      rw [ha0] at h00
      obtain ⟨ha, hbl⟩ := cell_spot h00
      refine ⟨a.block, a.off, by rw [← ha], hbl, fun i G hG => ?_⟩
      obtain ⟨hil, rfl⟩ := hget i G hG
      obtain ⟨pv, h1, h2, h3⟩ := hat i hil
      refine ⟨pv, fun j hj => ?_, h2, h3⟩
      have := h1 j hj
      rw [ha, Addr.add_lit, Addr.add_lit] at this
      exact this
    · obtain ⟨hil, rfl⟩ := hget i o ho
      obtain ⟨_, _, h2, _⟩ := hat i hil
      exact h2.2

set_option maxRecDepth 100000 in
/-- A slice of numbers that comes in as an argument. -/
theorem open_picks {H : Type} {enc : TypeId × Value → H} {W : World} {v : Value} {d : DataW H} {ps : List MemPlace} {base : Nat} (hv : Value.okWide Try.prog W .any base 25 v)
    (h : DataW.Trod enc Try.prog W 0 (fun _ => true) true 25 v d ps) : ∃ P : List Int, IntsAt W v P := by
  obtain ⟨a0, len, cap, rfl⟩ := okWide_slice Try.underlying25 hv
  obtain ⟨fuel, hf⟩ := h
  obtain ⟨pv, P, hcs, hP⟩ := open_ints hf
  simp [Value.cells] at hcs
  rw [hcs]
  exact ⟨P, hP⟩
/-- An operation as it lies among the arguments (the world w0). -/
def DOpOk (w0 : World) (o : DOp) (x : Value) : Prop := ∃ A n c, x = .agg #[.int .i64 o.kind, .int .i64 o.a, .int .i64 o.b, .int .u8 o.fill, .bool o.short, .slice A n c] ∧ o.ok ∧ IntsAt w0 (.slice A n c) o.picks
set_option maxRecDepth 100000 in
/-- Behind what wrote nothing of the arguments' world. -/
theorem DOpAt.below {W W' : World} {b o : Nat} {op : DOp} (h : DOpAt W b o op) (hb : b < W.heap.size) (hB : Below W.heap.size W W') : ∃ A n c, W'.cell? ⟨b, o, none⟩ = some (.int .i64 op.kind) ∧ W'.cell? ⟨b, o + 1, none⟩ = some (.int .i64 op.a) ∧ W'.cell? ⟨b, o + 2, none⟩ = some (.int .i64 op.b) ∧ W'.cell? ⟨b, o + 3, none⟩ = some (.int .u8 op.fill) ∧ W'.cell? ⟨b, o + 4, none⟩ = some (.bool op.short) ∧ W'.cell? ⟨b, o + 5, none⟩ = some (.slice A n c) ∧
    DOpOk W op (.agg #[.int .i64 op.kind, .int .i64 op.a, .int .i64 op.b, .int .u8 op.fill, .bool op.short, .slice A n c]) := by
  obtain ⟨pv, h0, h5, h6⟩ := h
  have h6' := h6
  obtain ⟨A, c, rfl, _⟩ := h6'
  refine ⟨A, _, c, ?_, ?_, ?_, ?_, ?_, ?_, A, _, c, rfl, h5, h6⟩
  · exact (hB.cell (p := ⟨b, o, none⟩) hb).trans (h0 0 (by decide))
  · exact (hB.cell (p := ⟨b, o + 1, none⟩) hb).trans (h0 1 (by decide))
  · exact (hB.cell (p := ⟨b, o + 2, none⟩) hb).trans (h0 2 (by decide))
  · exact (hB.cell (p := ⟨b, o + 3, none⟩) hb).trans (h0 3 (by decide))
  · exact (hB.cell (p := ⟨b, o + 4, none⟩) hb).trans (h0 4 (by decide))
  · exact (hB.cell (p := ⟨b, o + 5, none⟩) hb).trans (h0 5 (by decide))
end Go.Proofs.Ytgenifcikfbfhaa
