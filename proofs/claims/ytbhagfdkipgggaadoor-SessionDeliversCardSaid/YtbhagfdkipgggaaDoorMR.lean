/-
  What the rows of layer 29 hand the walks: the round constants in memory, sessions as arguments; the door's heap meets the listed variables.
  What the rows of layer 29 hand the walks: hellos, welcomes, messages, tables.
  What the row of the delivery hands the walk: a byte, texts, bytes, a flag.
-/
import Derived.Test.YtbhagfdkipgggaaDoorMA
import Derived.Test.YtbhagfdkipgggaaDoorMH
import Derived.Test.YtbhagfdkipgggaaDoorTie
import Derived.ProofKit
import Derived.LaidMore
import Derived.Lay
import Derived.OpenShut
import Derived.SliceStrings
import Derived.ChangeSlices
import Derived.Stop.Joined
import Derived.SevenTiedAt
import Derived.Test.YtbhagfdkipgggaaDoorMM
import Derived.Deep.Slices
import Derived.Test.YtbhagfdkipgggaaDoorMD
namespace Go.Proofs.YtbhagfdkipgggaaDoor
open Go.ChangeShapes Go.WideShapes Go.ChangeAt Go.RowKit Go.Deep

theorem Tryd.own : ownKnob Tryd.prog.godebug = none := by kernel_rfl
theorem Tryd.laidOut : laidOutB Tryd.prog = true := by kernel_rfl
/-- The lists that the rows of this seat bear. -/
def laid1 : List (String × DataW Unit) := [("custody/hash.constants", Rows.laid_custody_hash_constants)]
def laid2 : List (String × DataW Unit) := [("custody/custodyref02.constants", Rows.laid_custody_custodyref02_constants), ("custody/hash.constants", Rows.laid_custody_hash_constants)]
set_option maxRecDepth 100000 in
theorem laid1_met (os : Os) (args : Array Value) : laidMetH Tryd.prog laid1 ((World.laidAll Tryd.prog os laid1).forCall (fun _ _ => 0) ⟨#[], args, []⟩).memory := by
  rw [MakeChecks.laidMetH_plain _ _ _ (by kernel_rfl)]
  exact laidMet_laidAll _ (by kernel_rfl) (by kernel_rfl)
set_option maxRecDepth 100000 in
theorem laid2_met (os : Os) (args : Array Value) : laidMetH Tryd.prog laid2 ((World.laidAll Tryd.prog os laid2).forCall (fun _ _ => 0) ⟨#[], args, []⟩).memory := by
  rw [MakeChecks.laidMetH_plain _ _ _ (by kernel_rfl)]
  exact laidMet_laidAll _ (by kernel_rfl) (by kernel_rfl)
theorem gHash : Tryd.prog.globalNamed "custody/hash.constants" = some 1 := by kernel_rfl
theorem tHash : (Tryd.prog.globals[1]?).map (·.type) = some 118 := by kernel_rfl
theorem gRef02 : Tryd.prog.globalNamed "custody/custodyref02.constants" = some 0 := by kernel_rfl
theorem tRef02 : (Tryd.prog.globals[0]?).map (·.type) = some 118 := by kernel_rfl
theorem cellsA64 : Tryd.prog.cellsOf 118 = 64 := by kernel_rfl
theorem cellsU32 : Tryd.prog.cellsOf 108 = 1 := by kernel_rfl
theorem cellsIntS : Tryd.prog.cellsOf 3 = 1 := by kernel_rfl
theorem cellsU64S : Tryd.prog.cellsOf 30 = 1 := by kernel_rfl
theorem cellsStrS : Tryd.prog.cellsOf 9 = 1 := by kernel_rfl
theorem cellsSes : Tryd.prog.cellsOf 32 = 7 := by kernel_rfl
/-- The constants as a datum. -/
def kData {H : Type} : DataW H := .agg (shaK.map fun k => .lit (.int .u32 (k.toNat : Int)))
theorem hash_kData : (Rows.laid_custody_hash_constants : DataW Unit) = kData := by kernel_rfl
theorem ref02_kData : (Rows.laid_custody_custodyref02_constants : DataW Unit) = kData := by kernel_rfl
section
variable {H : Type} {enc : TypeId × Value → H} {w : World} {base : Nat} {spare : Nat → Bool} {held : Bool}
theorem consts_cells {m : Nat} {cs : List Value} {x : DataW H × List MemPlace} (h : DataW.trod enc Tryd.prog w base spare held m 118 cs = some x) (hx : x.1 = kData) : cs = kV := by
  obtain ⟨xs, n, _, rfl, hl, hlen, hel⟩ := DataW.trod_array Tryd.underlying118 h
  rw [cellsA64] at hl
  rw [cellsU32] at hel
  unfold kData at hx
  dsimp only at hx
  simp only [DataW.agg.injEq] at hx
  apply List.ext_getElem
  · rw [hl, kV_len]
  · intro i h1 h2
    have hi : i < 64 := by omega
    have he := hel i hi
    rw [Nat.mul_one, List.getElem?_eq_getElem (by omega : i < xs.length)] at he
    obtain ⟨k, hk, hxk, _⟩ := DataW.trod_int Tryd.underlying108 he
    have hxi : (xs.map (·.1))[i]? = some (.lit (.int .u32 k)) := by
      rw [List.getElem?_map, List.getElem?_eq_getElem (by omega : i < xs.length), hxk]
      rfl
    rw [hx, List.getElem?_map, List.getElem?_eq_getElem (by rw [shaK_len]; exact hi)] at hxi
    simp only [Option.map_some, Option.some.injEq, DataW.lit.injEq, Lit.int.injEq, true_and] at hxi
    have hc : (cs.drop i).take 1 = [cs[i]] := by
      rw [List.drop_eq_getElem_cons h1]
      rfl
    rw [hc] at hk
    have hk2 := (List.cons.injEq _ _ _ _).mp hk |>.1
    rw [hk2, ← hxi]
    exact (List.getElem_map u32v (l := shaK) (h := h2)).symm
set_option maxRecDepth 100000 in
theorem ses_cells {m : Nat} {cs : List Value} {x : DataW H × List MemPlace} (h : DataW.trod enc Tryd.prog w base spare held m 32 cs = some x) :
    ∃ s : Ses, cs = sesC s ∧ (s.key.size ≤ 400 → s.Fits) ∧ s.key.size ≤ maxLen ∧ (s.side = 1 ∨ s.side = 2 → True) := by
  obtain ⟨xs, n, _, _, hl, hlen, hf⟩ := DataW.trod_struct Tryd.underlying32 h
  rw [cellsSes] at hl
  have f0 : DataW.trod enc Tryd.prog w base spare held n 3 ((cs.drop 0).take (Tryd.prog.cellsOf 3)) = xs[0]? := hf 0 _ rfl
  have f1 : DataW.trod enc Tryd.prog w base spare held n 3 ((cs.drop 1).take (Tryd.prog.cellsOf 3)) = xs[1]? := hf 1 _ rfl
  have f2 : DataW.trod enc Tryd.prog w base spare held n 3 ((cs.drop 2).take (Tryd.prog.cellsOf 3)) = xs[2]? := hf 2 _ rfl
  have f3 : DataW.trod enc Tryd.prog w base spare held n 9 ((cs.drop 3).take (Tryd.prog.cellsOf 9)) = xs[3]? := hf 3 _ rfl
  have f4 : DataW.trod enc Tryd.prog w base spare held n 3 ((cs.drop 4).take (Tryd.prog.cellsOf 3)) = xs[4]? := hf 4 _ rfl
  have f5 : DataW.trod enc Tryd.prog w base spare held n 3 ((cs.drop 5).take (Tryd.prog.cellsOf 3)) = xs[5]? := hf 5 _ rfl
  have f6 : DataW.trod enc Tryd.prog w base spare held n 30 ((cs.drop 6).take (Tryd.prog.cellsOf 30)) = xs[6]? := hf 6 _ rfl
  rw [cellsIntS] at f0 f1 f2 f4 f5
  rw [cellsStrS] at f3
  rw [cellsU64S] at f6
  have hx : ∀ i, i < 7 → ∃ y, xs[i]? = some y := fun i hi => ⟨_, List.getElem?_eq_getElem (by rw [hlen]; exact hi)⟩
  obtain ⟨y0, e0⟩ := hx 0 (by decide)
  obtain ⟨y1, e1⟩ := hx 1 (by decide)
  obtain ⟨y2, e2⟩ := hx 2 (by decide)
  obtain ⟨y3, e3⟩ := hx 3 (by decide)
  obtain ⟨y4, e4⟩ := hx 4 (by decide)
  obtain ⟨y5, e5⟩ := hx 5 (by decide)
  obtain ⟨y6, e6⟩ := hx 6 (by decide)
  obtain ⟨a, ha, _, wa⟩ := DataW.trod_int Tryd.underlying3 (f0.trans e0)
  obtain ⟨b, hb, _, wb⟩ := DataW.trod_int Tryd.underlying3 (f1.trans e1)
  obtain ⟨c, hc, _, wc⟩ := DataW.trod_int Tryd.underlying3 (f2.trans e2)
  obtain ⟨k, hk, _, wk⟩ := DataW.trod_string Tryd.underlying9 (f3.trans e3)
  obtain ⟨d, hd, _, wd⟩ := DataW.trod_int Tryd.underlying3 (f4.trans e4)
  obtain ⟨t, ht, _, wt⟩ := DataW.trod_int Tryd.underlying3 (f5.trans e5)
  obtain ⟨u, hu, _, wu⟩ := DataW.trod_int Tryd.underlying30 (f6.trans e6)
  have i64 : ∀ {z : Int}, (Lit.int .i64 z).wf = true → -9223372036854775808 ≤ z ∧ z < 9223372036854775808 := fun {z} hz => by
    simp only [Lit.wf, Bool.and_eq_true, IntKind.min, IntKind.max] at hz
    simp [IntKind.signed, IntKind.bits] at hz
    omega
  have u64 : ∃ q : Nat, u = (q : Int) ∧ q < 18446744073709551616 := by
    simp only [Lit.wf, Bool.and_eq_true, IntKind.min, IntKind.max] at wu
    simp [IntKind.signed, IntKind.bits] at wu
    exact ⟨u.toNat, by omega, by omega⟩
  obtain ⟨q, rfl, hq⟩ := u64
  refine ⟨⟨a, b, c, k, d, t, q⟩, ?_, fun hk4 => ⟨i64 wa, i64 wb, i64 wc, i64 wd, i64 wt, hq, ?_⟩, wk, fun _ => trivial⟩
  · match cs, hl with
    | [c0, c1, c2, c3, c4, c5, c6], _ =>
      simp at ha hb hc hd hk ht hu
      rw [ha, hb, hc, hd, hk, ht, hu]
      rfl
  · dsimp only at hk4 ⊢
    omega
end
theorem consts_at {W : World} {cs0 : Array Value} {name : String} {g : Nat} (hg : Tryd.prog.globalNamed name = some g) (hv : W.var? Tryd.prog name = some cs0) (hcs : cs0.toList = kV) : KAt W g := by
  unfold World.var? at hv
  rw [hg] at hv
  simp only [Option.bind_some] at hv
  split at hv
  · rename_i c e fz hh
    have hc : c = cs0 := Option.some.inj hv
    subst hc
    refine ⟨(Array.getElem?_eq_some_iff.1 hh).1, fun j v hj => ?_⟩
    rw [← hcs] at hj
    simp only [World.cell?, hh]
    rw [Nat.zero_add, ← hj, Array.getElem?_toList]
    rfl
  · cases hv
theorem kAt_of_laid1 {W : World} (h : laidMetH Tryd.prog laid1 W) : KAt W 1 := by
  rw [MakeChecks.laidMetH_plain _ _ _ (by kernel_rfl)] at h
  obtain ⟨ps, ⟨g0, t0, cs0, f0, p0, q0, hg0, ht0, hv0, hd0, _, _⟩, _, _⟩ := h
  obtain rfl := Option.some.inj (gHash.symm.trans hg0)
  obtain rfl := Option.some.inj (tHash.symm.trans ht0)
  exact consts_at gHash hv0 (consts_cells hd0 hash_kData)
theorem kAts_of_laid2 {W : World} (h : laidMetH Tryd.prog laid2 W) : KAt W 1 ∧ KAt W 0 := by
  rw [MakeChecks.laidMetH_plain _ _ _ (by kernel_rfl)] at h
  obtain ⟨ps, ⟨g0, t0, cs0, f0, p0, q0, hg0, ht0, hv0, hd0, hr, _⟩, _, _⟩ := h
  obtain ⟨g1, t1, cs1, f1, p1, q1, hg1, ht1, hv1, hd1, _, _⟩ := hr
  obtain rfl := Option.some.inj (gRef02.symm.trans hg0)
  obtain rfl := Option.some.inj (tRef02.symm.trans ht0)
  obtain rfl := Option.some.inj (gHash.symm.trans hg1)
  obtain rfl := Option.some.inj (tHash.symm.trans ht1)
  exact ⟨consts_at gHash hv1 (consts_cells hd1 hash_kData), consts_at gRef02 hv0 (consts_cells hd0 ref02_kData)⟩
set_option maxRecDepth 100000 in
/-- A session that comes in as an argument. -/
theorem open_session {H : Type} {enc : TypeId × Value → H} {W : World} {v : Value} {d : DataW H} {ps : List MemPlace} {base : Nat} (hv : Value.okWide Tryd.prog W .any base 32 v)
    (h : DataW.Trod enc Tryd.prog W 0 (fun _ => true) true 32 v d ps) : ∃ s : Ses, v = sesV s ∧ (s.key.size ≤ 400 → s.Fits) ∧ s.key.size ≤ maxLen := by
  obtain ⟨cs, rfl, hs⟩ := okWide_struct Tryd.underlying32 hv
  obtain ⟨fuel, hf⟩ := h
  obtain ⟨s, e, h1, h2, _⟩ := ses_cells hf
  have hcs : (Value.agg cs).cells.toList = cs.toList := by simp [Value.cells]
  rw [hcs] at e
  refine ⟨s, ?_, h1, h2⟩
  obtain ⟨l⟩ := cs
  have e' : l = _ := e
  rw [e']
  rfl
set_option maxRecDepth 100000 in
theorem open_int64 {H : Type} {enc : TypeId × Value → H} {W : World} {v : Value} {d : DataW H} {ps : List MemPlace} {base : Nat} (hv : Value.okWide Tryd.prog W .any base 3 v)
    (h : DataW.Trod enc Tryd.prog W 0 (fun _ => true) true 3 v d ps) : ∃ n : Int, v = .int .i64 n ∧ -9223372036854775808 ≤ n ∧ n < 9223372036854775808 := by
  obtain ⟨n, rfl⟩ := okWide_int Tryd.underlying3 hv
  obtain ⟨fuel, hf⟩ := h
  obtain ⟨k, hk, _, hz⟩ := DataW.trod_int Tryd.underlying3 hf
  simp [Value.cells] at hk
  subst hk
  refine ⟨n, rfl, ?_⟩
  simp only [Lit.wf, Bool.and_eq_true, IntKind.min, IntKind.max] at hz
  simp [IntKind.signed, IntKind.bits] at hz
  omega
theorem trodAll_below {P : Program} (hl : laidOutB P = true) {H : Type} {enc : TypeId × Value → H} {W W' : World} (hb : Below W.heap.size W W') : ∀ {ts : List TypeId} {vs : List Value} {ds : List (DataW H)} {ps : List MemPlace}, (ts.all fun t => P.readableRec t && decide (t < P.types.size)) = true →
    DataW.TrodAll enc P W 0 (fun _ => true) true ts vs ds ps → (∀ x ∈ ps, x.block < W.heap.size) → DataW.TrodAll enc P W' 0 (fun b => decide (b < W.heap.size)) true ts vs ds ps := by
  intro ts
  induction ts with
  | nil =>
    intro vs ds ps _ h _
    obtain ⟨rfl, rfl, rfl⟩ := trodAll_nil h
    exact rfl
  | cons t ts ih =>
    intro vs ds ps ht h hlt
    obtain ⟨v, vs', d, ds', p, q, rfl, rfl, rfl, h0, h1⟩ := trodAll_cons h
    rw [List.all_cons, Bool.and_eq_true, Bool.and_eq_true] at ht
    exact trodAll_cons_mk (Below.trod hl ht.1.1 (of_decide_eq_true ht.1.2) h0 hb (fun x hx => hlt x (List.mem_append_left _ hx))) (ih ht.2 h1 (fun x hx => hlt x (List.mem_append_right _ hx)))
end Go.Proofs.YtbhagfdkipgggaaDoor
namespace Go.Proofs.YtbhagfdkipgggaaDoor
open Go.ChangeShapes Go.WideShapes Go.ChangeAt Go.RowKit Go.Deep
theorem cellsHel : Tryd.prog.cellsOf 23 = 3 := by kernel_rfl
theorem cellsWel : Tryd.prog.cellsOf 25 = 3 := by kernel_rfl
theorem cellsMsg : Tryd.prog.cellsOf 42 = 3 := by kernel_rfl
instance : Inhabited Ses := ⟨noSes⟩
theorem spot_of {w : World} {a : Addr} {v : Value} (h : w.cell? a = some v) : a = ⟨a.block, a.off, none⟩ ∧ a.block < w.heap.size := by
  obtain ⟨b, o, s⟩ := a
  unfold World.cell? at h
  split at h
  · rename_i hb
    refine ⟨?_, (Array.getElem?_eq_some_iff.1 hb).1⟩
    cases s with
    | none => rfl
    | some x => simp at h
  · cases h
section
variable {H : Type} {enc : TypeId × Value → H} {w : World} {base : Nat} {spare : Nat → Bool} {held : Bool}
set_option maxRecDepth 100000 in
theorem hel_cells {m : Nat} {cs : List Value} {x : DataW H × List MemPlace} (h : DataW.trod enc Tryd.prog w base spare held m 23 cs = some x) : ∃ s : Hel, cs = helC s := by
  obtain ⟨xs, n, _, _, hl, hlen, hf⟩ := DataW.trod_struct Tryd.underlying23 h
  rw [cellsHel] at hl
  have f0 : DataW.trod enc Tryd.prog w base spare held n 3 ((cs.drop 0).take (Tryd.prog.cellsOf 3)) = xs[0]? := hf 0 _ rfl
  have f1 : DataW.trod enc Tryd.prog w base spare held n 9 ((cs.drop 1).take (Tryd.prog.cellsOf 9)) = xs[1]? := hf 1 _ rfl
  have f2 : DataW.trod enc Tryd.prog w base spare held n 9 ((cs.drop 2).take (Tryd.prog.cellsOf 9)) = xs[2]? := hf 2 _ rfl
  rw [cellsIntS] at f0
  rw [cellsStrS] at f1 f2
  have hx : ∀ i, i < 3 → ∃ y, xs[i]? = some y := fun i hi => ⟨_, List.getElem?_eq_getElem (by rw [hlen]; exact hi)⟩
  obtain ⟨y0, e0⟩ := hx 0 (by decide)
  obtain ⟨y1, e1⟩ := hx 1 (by decide)
  obtain ⟨y2, e2⟩ := hx 2 (by decide)
  obtain ⟨a, ha, _, _⟩ := DataW.trod_int Tryd.underlying3 (f0.trans e0)
  obtain ⟨b, hb, _, _⟩ := DataW.trod_string Tryd.underlying9 (f1.trans e1)
  obtain ⟨c, hc, _, _⟩ := DataW.trod_string Tryd.underlying9 (f2.trans e2)
  refine ⟨⟨a, b, c⟩, ?_⟩
  match cs, hl with
  | [c0, c1, c2], _ =>
    simp at ha hb hc
    rw [ha, hb, hc]
    rfl
set_option maxRecDepth 100000 in
theorem wel_cells {m : Nat} {cs : List Value} {x : DataW H × List MemPlace} (h : DataW.trod enc Tryd.prog w base spare held m 25 cs = some x) : ∃ s : Wel, cs = welC s := by
  obtain ⟨xs, n, _, _, hl, hlen, hf⟩ := DataW.trod_struct Tryd.underlying25 h
  rw [cellsWel] at hl
  have f0 : DataW.trod enc Tryd.prog w base spare held n 3 ((cs.drop 0).take (Tryd.prog.cellsOf 3)) = xs[0]? := hf 0 _ rfl
  have f1 : DataW.trod enc Tryd.prog w base spare held n 9 ((cs.drop 1).take (Tryd.prog.cellsOf 9)) = xs[1]? := hf 1 _ rfl
  have f2 : DataW.trod enc Tryd.prog w base spare held n 9 ((cs.drop 2).take (Tryd.prog.cellsOf 9)) = xs[2]? := hf 2 _ rfl
  rw [cellsIntS] at f0
  rw [cellsStrS] at f1 f2
  have hx : ∀ i, i < 3 → ∃ y, xs[i]? = some y := fun i hi => ⟨_, List.getElem?_eq_getElem (by rw [hlen]; exact hi)⟩
  obtain ⟨y0, e0⟩ := hx 0 (by decide)
  obtain ⟨y1, e1⟩ := hx 1 (by decide)
  obtain ⟨y2, e2⟩ := hx 2 (by decide)
  obtain ⟨a, ha, _, _⟩ := DataW.trod_int Tryd.underlying3 (f0.trans e0)
  obtain ⟨b, hb, _, _⟩ := DataW.trod_string Tryd.underlying9 (f1.trans e1)
  obtain ⟨c, hc, _, _⟩ := DataW.trod_string Tryd.underlying9 (f2.trans e2)
  refine ⟨⟨a, b, c⟩, ?_⟩
  match cs, hl with
  | [c0, c1, c2], _ =>
    simp at ha hb hc
    rw [ha, hb, hc]
    rfl
set_option maxRecDepth 100000 in
theorem msg_cells {m : Nat} {cs : List Value} {x : DataW H × List MemPlace} (h : DataW.trod enc Tryd.prog w base spare held m 42 cs = some x) : ∃ s : Msg, cs = msgC s ∧ -9223372036854775808 ≤ s.num ∧ s.num < 9223372036854775808 := by
  obtain ⟨xs, n, _, _, hl, hlen, hf⟩ := DataW.trod_struct Tryd.underlying42 h
  rw [cellsMsg] at hl
  have f0 : DataW.trod enc Tryd.prog w base spare held n 3 ((cs.drop 0).take (Tryd.prog.cellsOf 3)) = xs[0]? := hf 0 _ rfl
  have f1 : DataW.trod enc Tryd.prog w base spare held n 3 ((cs.drop 1).take (Tryd.prog.cellsOf 3)) = xs[1]? := hf 1 _ rfl
  have f2 : DataW.trod enc Tryd.prog w base spare held n 9 ((cs.drop 2).take (Tryd.prog.cellsOf 9)) = xs[2]? := hf 2 _ rfl
  rw [cellsIntS] at f0 f1
  rw [cellsStrS] at f2
  have hx : ∀ i, i < 3 → ∃ y, xs[i]? = some y := fun i hi => ⟨_, List.getElem?_eq_getElem (by rw [hlen]; exact hi)⟩
  obtain ⟨y0, e0⟩ := hx 0 (by decide)
  obtain ⟨y1, e1⟩ := hx 1 (by decide)
  obtain ⟨y2, e2⟩ := hx 2 (by decide)
  obtain ⟨a, ha, _, _⟩ := DataW.trod_int Tryd.underlying3 (f0.trans e0)
  obtain ⟨b, hb, _, wb⟩ := DataW.trod_int Tryd.underlying3 (f1.trans e1)
  obtain ⟨c, hc, _, _⟩ := DataW.trod_string Tryd.underlying9 (f2.trans e2)
  refine ⟨⟨a, b, c⟩, ?_, ?_⟩
  · match cs, hl with
    | [c0, c1, c2], _ =>
      simp at ha hb hc
      rw [ha, hb, hc]
      rfl
  · simp only [Lit.wf, Bool.and_eq_true, IntKind.min, IntKind.max] at wb
    simp [IntKind.signed, IntKind.bits] at wb
    dsimp only
    omega
end
section
variable {H : Type} {enc : TypeId × Value → H} {W : World} {v : Value} {d : DataW H} {ps : List MemPlace} {base : Nat}
set_option maxRecDepth 100000 in
theorem open_hello (hv : Value.okWide Tryd.prog W .any base 23 v) (h : DataW.Trod enc Tryd.prog W 0 (fun _ => true) true 23 v d ps) : ∃ s : Hel, v = helV s := by
  obtain ⟨cs, rfl, hs⟩ := okWide_struct Tryd.underlying23 hv
  obtain ⟨fuel, hf⟩ := h
  obtain ⟨s, e⟩ := hel_cells hf
  have hcs : (Value.agg cs).cells.toList = cs.toList := by simp [Value.cells]
  rw [hcs] at e
  refine ⟨s, ?_⟩
  obtain ⟨l⟩ := cs
  have e' : l = _ := e
  rw [e']
  rfl
set_option maxRecDepth 100000 in
theorem open_welcome (hv : Value.okWide Tryd.prog W .any base 25 v) (h : DataW.Trod enc Tryd.prog W 0 (fun _ => true) true 25 v d ps) : ∃ s : Wel, v = welV s := by
  obtain ⟨cs, rfl, hs⟩ := okWide_struct Tryd.underlying25 hv
  obtain ⟨fuel, hf⟩ := h
  obtain ⟨s, e⟩ := wel_cells hf
  have hcs : (Value.agg cs).cells.toList = cs.toList := by simp [Value.cells]
  rw [hcs] at e
  refine ⟨s, ?_⟩
  obtain ⟨l⟩ := cs
  have e' : l = _ := e
  rw [e']
  rfl
set_option maxRecDepth 100000 in
theorem open_message (hv : Value.okWide Tryd.prog W .any base 42 v) (h : DataW.Trod enc Tryd.prog W 0 (fun _ => true) true 42 v d ps) : ∃ s : Msg, v = msgV s ∧ -9223372036854775808 ≤ s.num ∧ s.num < 9223372036854775808 := by
  obtain ⟨cs, rfl, hs⟩ := okWide_struct Tryd.underlying42 hv
  obtain ⟨fuel, hf⟩ := h
  obtain ⟨s, e, hr⟩ := msg_cells hf
  have hcs : (Value.agg cs).cells.toList = cs.toList := by simp [Value.cells]
  rw [hcs] at e
  refine ⟨s, ?_, hr⟩
  obtain ⟨l⟩ := cs
  have e' : l = _ := e
  rw [e']
  rfl
theorem tabC_find {L : List Ses} {j : Nat} {u : Value} (h : (tabC L)[j]? = some u) : ∃ s, L[j / 7]? = some s ∧ (sesC s)[j % 7]? = some u := by
  have hl := (List.getElem?_eq_some_iff.1 h).1
  rw [tabC_len] at hl
  have hj : j / 7 < L.length := by omega
  refine ⟨L[j / 7], List.getElem?_eq_getElem hj, ?_⟩
  rw [← tabC_at L (j / 7) (j % 7) _ (List.getElem?_eq_getElem hj) (Nat.mod_lt _ (by decide)), show j / 7 * 7 + j % 7 = j by omega]
  exact h
set_option maxRecDepth 100000 in
/-- A table that comes in as an argument. -/
theorem open_table (hv : Value.okWide Tryd.prog W .any base 55 v) (h : DataW.Trod enc Tryd.prog W 0 (fun _ => true) true 55 v d ps) : ∃ L : List Ses, TabAt W v L := by
  obtain ⟨a0, len, cap, rfl⟩ := okWide_slice Tryd.underlying55 hv
  obtain ⟨fuel, hf⟩ := h
  rcases open_slice Tryd.underlying55 hf with ⟨hcs, _⟩ | ⟨a, len', cap', m, n, D, Pl, hcs, _, hl, hm, hmm, _, hx⟩
  · simp [Value.cells] at hcs
    obtain ⟨rfl, rfl, rfl⟩ := hcs
    exact ⟨[], TabAt.nil W⟩
  · simp [Value.cells] at hcs
    obtain ⟨rfl, rfl, rfl⟩ := hcs
    simp only [if_true] at hmm
    rw [cellsSes] at hx
    obtain ⟨T, hT⟩ := choose_lt (α := Ses) (n := len) (p := fun i T => W.cells? 0 (a.add (i * 7)) 7 = some (sesC T)) (fun i hi => by
      obtain ⟨cs', h1, h2⟩ := hx i (by omega)
      obtain ⟨T, rfl, _⟩ := ses_cells h2
      exact ⟨T, h1⟩)
    have hlen : ((List.range len).map T).length = len := by rw [List.length_map, List.length_range]
    have hat : ∀ i, i < len → ∀ j, j < 7 → W.cell? ((a.add (i * 7)).add j) = (sesC (T i))[j]? := fun i hi j hj => (World.cells?_some (hT i hi)).2.2 j hj
    refine ⟨(List.range len).map T, a, cap, by rw [hlen], by rw [hlen]; exact hl, hm, fun hl0 => ?_⟩
    rw [hlen] at hl0
    have h00 := hat 0 hl0 0 (by decide)
    rw [Nat.zero_mul] at h00
    have ha0 : (a.add 0).add 0 = a := by simp [Addr.add]
    rw [ha0] at h00
    obtain ⟨ha, hbl⟩ := spot_of (v := .int .i64 (T 0).id) h00
    refine ⟨a.block, a.off, by rw [← ha], hbl, fun j u hj => ?_⟩
    obtain ⟨s, hs, hu⟩ := tabC_find hj
    rw [List.getElem?_map] at hs
    obtain ⟨i', hi', e⟩ := Option.map_eq_some_iff.1 hs
    have hil : j / 7 < len := by have := (List.getElem?_eq_some_iff.1 hi').1; simpa using this
    rw [List.getElem?_range hil] at hi'
    cases hi'
    have := hat (j / 7) hil (j % 7) (Nat.mod_lt _ (by decide))
    rw [ha, Addr.add_lit, Addr.add_lit, e, hu, Nat.add_assoc, show j / 7 * 7 + j % 7 = j by omega] at this
    exact this
end
end Go.Proofs.YtbhagfdkipgggaaDoor
namespace Go.Proofs.YtbhagfdkipgggaaDoor
open Go.ChangeShapes Go.WideShapes Go.ChangeAt Go.RowKit Go.Deep
theorem cellsU8 : Tryd.prog.cellsOf 5 = 1 := by kernel_rfl
section
variable {H : Type} {enc : TypeId × Value → H} {W : World} {v : Value} {d : DataW H} {ps : List MemPlace} {base : Nat}
set_option maxRecDepth 100000 in
theorem open_byte (hv : Value.okWide Tryd.prog W .any base 5 v) (h : DataW.Trod enc Tryd.prog W 0 (fun _ => true) true 5 v d ps) : ∃ b : UInt8, v = .int .u8 (b.toNat : Int) := by
  obtain ⟨n, rfl⟩ := okWide_int Tryd.underlying5 hv
  obtain ⟨fuel, hf⟩ := h
  obtain ⟨k, hk, _, hz⟩ := DataW.trod_int Tryd.underlying5 hf
  simp [Value.cells] at hk
  subst hk
  simp only [Lit.wf, Bool.and_eq_true, IntKind.min, IntKind.max] at hz
  simp [IntKind.signed, IntKind.bits] at hz
  refine ⟨UInt8.ofNat n.toNat, ?_⟩
  rw [UInt8.toNat_ofNat', Nat.mod_eq_of_lt (by omega), Int.toNat_of_nonneg hz.1]
set_option maxRecDepth 100000 in
theorem open_boolean (hv : Value.okWide Tryd.prog W .any base 4 v) (h : DataW.Trod enc Tryd.prog W 0 (fun _ => true) true 4 v d ps) : ∃ b : Bool, v = .bool b := by
  obtain ⟨b, rfl, _⟩ := open_bool Tryd.underlying4 hv h
  exact ⟨b, rfl⟩
set_option maxRecDepth 100000 in
theorem open_textsS (hv : Value.okWide Tryd.prog W .any base 64 v) (h : DataW.Trod enc Tryd.prog W 0 (fun _ => true) true 64 v d ps) : ∃ (A : Option Addr) (c : Nat) (l : List ByteArray), v = .slice A l.length c ∧ TextsAt W A l := by
  obtain ⟨a0, len, cap, rfl⟩ := okWide_slice Tryd.underlying64 hv
  obtain ⟨fuel, hf⟩ := h
  rcases open_strings Tryd.underlying64 Tryd.underlying9 cellsStrS hf with ⟨hcs, _⟩ | ⟨a, len', cap', ss, hcs, _, hl, hm, hss, _, hat, _⟩
  · simp [Value.cells] at hcs
    obtain ⟨rfl, rfl, rfl⟩ := hcs
    exact ⟨none, 0, [], rfl, .inl rfl⟩
  · simp [Value.cells] at hcs
    obtain ⟨rfl, rfl, rfl⟩ := hcs
    simp only [if_true] at hss
    refine ⟨some a, cap, ss.take len, by rw [List.length_take]; congr 1; omega, ?_⟩
    by_cases h0 : (ss.take len) = []
    · exact .inl h0
    · refine .inr ?_
      have hp : 0 < (ss.take len).length := List.length_pos_iff.2 h0
      rw [List.length_take] at hp
      have h00 := hat 0 (by omega)
      have ha0 : a.add 0 = a := by simp [Addr.add]
      rw [ha0] at h00
      obtain ⟨ha, hbl⟩ := spot_of h00
      rw [ha] at hat ⊢
      refine ⟨_, _, rfl, hbl, fun i t ht => ?_⟩
      rw [List.getElem?_take] at ht
      split at ht
      · have hi := (List.getElem?_eq_some_iff.1 ht).1
        have := hat i hi
        rw [Addr.add_lit, List.getD_eq_getElem?_getD, ht] at this
        exact this
      · cases ht
set_option maxRecDepth 100000 in
theorem open_bytesS (hv : Value.okWide Tryd.prog W .any base 65 v) (h : DataW.Trod enc Tryd.prog W 0 (fun _ => true) true 65 v d ps) : ∃ (A : Option Addr) (c : Nat) (l : List UInt8), v = .slice A l.length c ∧ (l = [] ∨ ∃ g o, A = some ⟨g, o, none⟩ ∧ BytesAt W g o l) := by
  obtain ⟨a0, len, cap, rfl⟩ := okWide_slice Tryd.underlying65 hv
  obtain ⟨fuel, hf⟩ := h
  rcases open_slice Tryd.underlying65 hf with ⟨hcs, _⟩ | ⟨a, len', cap', m, n, D, Pl, hcs, _, hl, hm, hmm, _, hx⟩
  · simp [Value.cells] at hcs
    obtain ⟨rfl, rfl, rfl⟩ := hcs
    exact ⟨none, 0, [], rfl, .inl rfl⟩
  · simp [Value.cells] at hcs
    obtain ⟨rfl, rfl, rfl⟩ := hcs
    simp only [if_true] at hmm
    rw [cellsU8] at hx
    obtain ⟨T, hT⟩ := choose_lt (α := Nat) (n := len) (p := fun i T => W.cells? 0 (a.add (i * 1)) 1 = some [.int .u8 (T : Int)] ∧ T < 256) (fun i hi => by
      obtain ⟨cs', h1, h2⟩ := hx i (by omega)
      obtain ⟨z, rfl, _, hz⟩ := DataW.trod_int Tryd.underlying5 h2
      simp only [Lit.wf, Bool.and_eq_true, IntKind.min, IntKind.max] at hz
      simp [IntKind.signed, IntKind.bits] at hz
      refine ⟨z.toNat, ?_, by omega⟩
      rw [Int.toNat_of_nonneg hz.1]
      exact h1)
    have hlen : ((List.range len).map fun i => UInt8.ofNat (T i)).length = len := by rw [List.length_map, List.length_range]
    refine ⟨some a, cap, (List.range len).map fun i => UInt8.ofNat (T i), by rw [hlen], ?_⟩
    by_cases h0 : len = 0
    · subst h0
      exact .inl rfl
    · have hz := (World.cells?_some (hT 0 (by omega)).1).2.2 0 (by decide)
      have hz0 : (a.add (0 * 1)).add 0 = a := by simp [Addr.add]
      rw [hz0] at hz
      obtain ⟨ha, hs2⟩ := spot_of (v := .int .u8 (T 0 : Int)) hz
      refine .inr ⟨a.block, a.off, by rw [← ha], hs2, fun i x hi => ?_⟩
      rw [List.getElem?_map] at hi
      obtain ⟨i', hi', e⟩ := Option.map_eq_some_iff.1 hi
      have hil : i < len := by have := (List.getElem?_eq_some_iff.1 hi').1; simpa using this
      rw [List.getElem?_range hil] at hi'
      cases hi'
      obtain ⟨h1, h2⟩ := hT i hil
      have hc := (World.cells?_some h1).2.2 0 (by decide)
      have ha0 : (a.add (i * 1)).add 0 = a.add i := by simp [Addr.add]
      rw [ha0] at hc
      have hc' : W.cell? (a.add i) = some (.int .u8 (T i : Int)) := hc
      rw [← e, UInt8.toNat_ofNat', Nat.mod_eq_of_lt (by omega)]
      rw [ha, Addr.add_lit] at hc'
      exact hc'
end
end Go.Proofs.YtbhagfdkipgggaaDoor
