/-
  What the listed variable gives the walks of layer 11: the table of units lies in its block.
-/
import Derived.Test.YtgieiehpnjhkoabDoorLexLaw1
import Derived.Test.YtgieiehpnjhkoabDoorTie
import Derived.ProofKit
import Derived.LaidMore
import Derived.OpenShut
import Derived.Stop.Joined
import Derived.SevenTiedAt
namespace Go.Proofs.YtgieiehpnjhkoabDoor
open Go.ChangeShapes Go.WideShapes Go.ChangeAt Go.RowKit LexP

theorem Tryd.own : ownKnob Tryd.prog.godebug = none := by kernel_rfl
theorem gUnits : Tryd.prog.globalNamed "custody/lex.units" = some 0 := by kernel_rfl
theorem tUnits : (Tryd.prog.globals[0]?).map (·.type) = some 63 := by kernel_rfl

/-- The list that the rows of this seat bear. -/
def laidU {H : Type} : List (String × DataW H) := [("custody/lex.units", Rows.laid_custody_lex_units)]

theorem cellsU : Tryd.prog.cellsOf 62 = 2 := by kernel_rfl
theorem cellsUs : Tryd.prog.cellsOf 63 = 8 := by kernel_rfl
theorem cellsU8 : Tryd.prog.cellsOf 5 = 1 := by kernel_rfl
theorem cellsInt : Tryd.prog.cellsOf 3 = 1 := by kernel_rfl

section
variable {H : Type} {enc : TypeId × Value → H} {w : World} {base : Nat} {spare : Nat → Bool} {held : Bool}
theorem unit_cells {m : Nat} {cs : List Value} {x : DataW H × List MemPlace} {a b : Int} (h : DataW.trod enc Tryd.prog w base spare held m 62 cs = some x) (hx : x.1 = .agg [.lit (.int .u8 a), .lit (.int .i64 b)]) :
    cs = [.int .u8 a, .int .i64 b] := by
  obtain ⟨y0, y1, n, rfl, hl, h0, h1⟩ := trod_struct2 Tryd.underlying62 h
  rw [cellsU] at hl
  obtain ⟨c0, c1, rfl⟩ : ∃ c0 c1, cs = [c0, c1] := by
    match cs, hl with
    | [c0, c1], _ => exact ⟨c0, c1, rfl⟩
  simp only [DataW.agg.injEq, List.cons.injEq, and_true] at hx
  dsimp only at h0 h1
  rw [cellsU8] at h0
  rw [cellsInt] at h1
  obtain ⟨p, hp, rfl, _⟩ := DataW.trod_int Tryd.underlying5 h0
  obtain ⟨q, hq, rfl, _⟩ := DataW.trod_int Tryd.underlying3 h1
  simp at hp hq hx
  rw [hp, hq, hx.1, hx.2]
end

theorem units_of_laid {W : World} (h : laidMetH Tryd.prog laidU W) : UnitsAt W := by
  rw [MakeChecks.laidMetH_plain _ _ _ (by kernel_rfl)] at h
  obtain ⟨ps, ⟨g0, t0, cs0, f0, p0, q0, hg0, ht0, hv0, hd0, _, _⟩, _, _⟩ := h
  obtain rfl := Option.some.inj (gUnits.symm.trans hg0)
  obtain rfl := Option.some.inj (tUnits.symm.trans ht0)
  obtain ⟨xs, m1, rfl, hx1, hlen, hn3, hel⟩ := DataW.trod_array Tryd.underlying63 hd0
  rw [cellsUs] at hlen
  rw [cellsU] at hel
  have e0 := hel 0 (by decide)
  have e1 := hel 1 (by decide)
  have e2 := hel 2 (by decide)
  have e3 := hel 3 (by decide)
  simp only [Prod.mk.injEq] at hx1
  obtain ⟨hx1, _⟩ := hx1
  unfold Rows.laid_custody_lex_units at hx1
  match xs, hn3, hx1, e0, e1, e2, e3 with
  | [x0, x1, x2, x3], _, hx1, e0, e1, e2, e3 =>
    simp only [List.map_cons, List.map_nil, DataW.agg.injEq, List.cons.injEq, and_true] at hx1
    obtain ⟨a0, a1, a2, a3⟩ := hx1
    have r0 := unit_cells e0 a0.symm
    have r1 := unit_cells e1 a1.symm
    have r2 := unit_cells e2 a2.symm
    have r3 := unit_cells e3 a3.symm
    have hcs : cs0.toList = [.int .u8 115, .int .i64 1, .int .u8 109, .int .i64 60, .int .u8 104, .int .i64 3600, .int .u8 100, .int .i64 86400] := by
      match hq : cs0.toList, hlen with
      | [b0, b1, b2, b3, b4, b5, b6, b7], _ =>
        rw [hq] at r0 r1 r2 r3
        simp at r0 r1 r2 r3
        rw [r0.1, r0.2, r1.1, r1.2, r2.1, r2.2, r3.1, r3.2]
    have hv := hv0
    unfold World.var? at hv
    rw [gUnits] at hv
    simp only [Option.bind_some] at hv
    split at hv
    · rename_i c e fz hh
      have hc : c = cs0 := Option.some.inj hv
      refine ⟨e, fz, hh.trans ?_⟩
      rw [hc]
      have h8 : cs0 = #[.int .u8 115, .int .i64 1, .int .u8 109, .int .i64 60, .int .u8 104, .int .i64 3600, .int .u8 100, .int .i64 86400] := Array.ext' hcs
      rw [h8]
    · cases hv

/-- The door's own heap meets the condition. -/
theorem door_met (os : Os) (args : Array Value) : laidMetH Tryd.prog laidU ((World.doorLaid Tryd.prog 18 os).forCall (fun _ _ => 0) ⟨#[], args, []⟩).memory :=
  laidMetH_of_parts3 (fuel := 8) (laidMet_of_run' 8 (by kernel_rfl) (by kernel_rfl)) (by kernel_rfl) (by kernel_rfl)
end Go.Proofs.YtgieiehpnjhkoabDoor
