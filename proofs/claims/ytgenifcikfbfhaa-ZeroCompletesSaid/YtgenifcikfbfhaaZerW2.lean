/-
  Layer 33 (zero): the steps' functions, each with what it has captured; the maker of the iterator.
-/
import Derived.Test.YtgenifcikfbfhaaG3
import Derived.Test.YtgenifcikfbfhaaG4
import Derived.Test.YtgenifcikfbfhaaG5
import Derived.Deep.RegionHeld3
namespace Go.Proofs.Ytgenifcikfbfhaa
open Go.RowKit Go.Shelf
attribute [local go_sem] Oper.semAt_some

section
variable {w w' : World} {d b g sb sc fb fc : Nat} {D : Dev}
/-- A box of another kind lies on. -/
theorem keep_box (hF : DFr w w' d g sb fb) (h : IsDev w d b g sb sc fb fc D) {k : Nat} {t : TypeId} {cs : Array Value} (hk : Blk w k t cs) (ht : t ≠ 62 ∧ t ≠ 84 ∧ t ≠ 9 ∧ t ≠ 4) : Blk w' k t cs :=
  (DLeft.blk (a := ⟨d, b, g, sb, sc, fb, fc⟩) hF h hk (fun e => absurd e ht.1) (fun e => absurd e ht.2.1) (fun e => absurd e ht.2.2.1) (fun e => absurd e ht.2.2.2)).trans hk
set_option maxRecDepth 100000 in
set_option maxHeartbeats 4000000 in
theorem zst1_any (h : IsDev w d b g sb sc fb fc D) (hr : -1 ≤ D.left ∧ D.left ≤ 9223372036854775807) (bd bi i : Nat) (k1 : Blk w bd 26 #[.pointer (some ⟨d, 0, none⟩)]) (k2 : Blk w bi 3 #[.int .i64 i]) :
    Calls Try.prog 63 #[.pointer (some ⟨bd, 0, none⟩), .pointer (some ⟨bi, 0, none⟩)] w fun e w' => e = .returned (.int .i64 (zdo (.store i) D).1) ∧ IsDev w' d b g sb sc fb fc (zdo (.store i) D).2 ∧ DFr w w' d g sb fb := by
  have HS : Hid (∀ w1, Below w.heap.size w.drew w1 → w1.cell? ⟨bd, 0, none⟩ = some (.pointer (some ⟨d, 0, none⟩)) ∧ w1.cell? ⟨bi, 0, none⟩ = some (.int .i64 i) ∧
      Hid (Calls Try.prog 29 #[.pointer (some ⟨d, 0, none⟩), .int .i64 i, .string zero32] w1 fun e w' => e = .returned (.int .i64 (zdo (.store i) D).1) ∧ IsDev w' d b g sb sc fb fc (zdo (.store i) D).2 ∧ DFr w w' d g sb fb ∧ w'.cell? ⟨bd, 0, none⟩ = some (.pointer (some ⟨d, 0, none⟩)) ∧ w'.cell? ⟨bi, 0, none⟩ = some (.int .i64 i))) := by
    intro w1 hB
    have hb : Below w.heap.size w w1 := (Below.refl _ w).drew.trans hB
    have h1 := h.below hb
    refine ⟨(k1.below hb k1.lt).cell 0, (k2.below hb k2.lt).cell 0, (dStore_any h1 hr i zero32).mono ?_⟩
    rintro e w' ⟨rfl, h2, h3⟩
    exact ⟨rfl, h2, DFr.trans (w' := w1) (DFr.ofBelow hb) h3, (keep_box h3 h1 (k1.below hb k1.lt) (by decide)).cell 0, (keep_box h3 h1 (k2.below hb k2.lt) (by decide)).cell 0⟩
  have y1 : w.cell? ⟨bd, 0, none⟩ = some (.pointer (some ⟨d, 0, none⟩)) := k1.cell 0
  have y2 : w.cell? ⟨bi, 0, none⟩ = some (.int .i64 i) := k2.cell 0
  generalize zdo (.store i) D = R at HS ⊢
  clear h hr k1 k2
  go_enter Try.func63, Try.ntmps63
  go_wp2_with fail
  go_region_held3 (fun w' => w'.cell? ⟨bd, 0, none⟩ = some (.pointer (some ⟨d, 0, none⟩)) ∧ w'.cell? ⟨bi, 0, none⟩ = some (.int .i64 i)) (go_keep)
    (first | (go_at_call 29; refine HC.out.mono ?_; rintro e w2 ⟨rfl, hI, hFr, z1, z2⟩) | (go_at_call 64; refine (emptySlot_any _).mono ?_; rintro e w1 ⟨rfl, hB1⟩; obtain ⟨a0, a1, HC⟩ := HS.out _ hB1))
  go_wp2_with fail
  go_ret
  exact ⟨rfl, hI, hFr⟩
set_option maxRecDepth 100000 in
set_option maxHeartbeats 4000000 in
theorem zst2_any (h : IsDev w d b g sb sc fb fc D) (hr : -1 ≤ D.left ∧ D.left ≤ 9223372036854775807) (bd bi i : Nat) (k1 : Blk w bd 26 #[.pointer (some ⟨d, 0, none⟩)]) (k2 : Blk w bi 3 #[.int .i64 i]) :
    Calls Try.prog 66 #[.pointer (some ⟨bd, 0, none⟩), .pointer (some ⟨bi, 0, none⟩)] w fun e w' => e = .returned (.int .i64 (zdo (.write i) D).1) ∧ IsDev w' d b g sb sc fb fc (zdo (.write i) D).2 ∧ DFr w w' d g sb fb := by
  have HS : Hid (∀ w1, Below w.heap.size w.drew w1 → w1.cell? ⟨bd, 0, none⟩ = some (.pointer (some ⟨d, 0, none⟩)) ∧ w1.cell? ⟨bi, 0, none⟩ = some (.int .i64 i) ∧
      Hid (Calls Try.prog 23 #[.pointer (some ⟨d, 0, none⟩), .int .i64 i, .string zeros] w1 fun e w' => e = .returned (.int .i64 (zdo (.write i) D).1) ∧ IsDev w' d b g sb sc fb fc (zdo (.write i) D).2 ∧ DFr w w' d g sb fb ∧ w'.cell? ⟨bd, 0, none⟩ = some (.pointer (some ⟨d, 0, none⟩)) ∧ w'.cell? ⟨bi, 0, none⟩ = some (.int .i64 i))) := by
    intro w1 hB
    have hb : Below w.heap.size w w1 := (Below.refl _ w).drew.trans hB
    have h1 := h.below hb
    refine ⟨(k1.below hb k1.lt).cell 0, (k2.below hb k2.lt).cell 0, (dWrite_any h1 hr i zeros).mono ?_⟩
    rintro e w' ⟨rfl, h2, h3⟩
    exact ⟨rfl, h2, DFr.trans (w' := w1) (DFr.ofBelow hb) h3, (keep_box h3 h1 (k1.below hb k1.lt) (by decide)).cell 0, (keep_box h3 h1 (k2.below hb k2.lt) (by decide)).cell 0⟩
  have y1 : w.cell? ⟨bd, 0, none⟩ = some (.pointer (some ⟨d, 0, none⟩)) := k1.cell 0
  have y2 : w.cell? ⟨bi, 0, none⟩ = some (.int .i64 i) := k2.cell 0
  generalize zdo (.write i) D = R at HS ⊢
  clear h hr k1 k2
  go_enter Try.func66, Try.ntmps66
  go_wp2_with fail
  go_region_held3 (fun w' => w'.cell? ⟨bd, 0, none⟩ = some (.pointer (some ⟨d, 0, none⟩)) ∧ w'.cell? ⟨bi, 0, none⟩ = some (.int .i64 i)) (go_keep)
    (first | (go_at_call 23; refine HC.out.mono ?_; rintro e w2 ⟨rfl, hI, hFr, z1, z2⟩) | (go_at_call 43; refine (emptySector_any _).mono ?_; rintro e w1 ⟨rfl, hB1⟩; obtain ⟨a0, a1, HC⟩ := HS.out _ hB1))
  go_wp2_with fail
  go_ret
  exact ⟨rfl, hI, hFr⟩
set_option maxRecDepth 100000 in
set_option maxHeartbeats 1600000 in
theorem zst3_any (h : IsDev w d b g sb sc fb fc D) (hr : -1 ≤ D.left ∧ D.left ≤ 9223372036854775807) (bd : Nat) (k1 : Blk w bd 26 #[.pointer (some ⟨d, 0, none⟩)]) :
    Calls Try.prog 67 #[.pointer (some ⟨bd, 0, none⟩)] w fun e w' => e = .returned (.int .i64 (zdo .burn D).1) ∧ IsDev w' d b g sb sc fb fc (zdo .burn D).2 ∧ DFr w w' d g sb fb := by
  have HC : Hid (Calls Try.prog 19 #[.pointer (some ⟨d, 0, none⟩), .int .i64 1] w fun e w' => e = .returned (.int .i64 (zdo .burn D).1) ∧ IsDev w' d b g sb sc fb fc (zdo .burn D).2 ∧ DFr w w' d g sb fb) := dBurn_any h hr 1
  have y1 : w.cell? ⟨bd, 0, none⟩ = some (.pointer (some ⟨d, 0, none⟩)) := k1.cell 0
  generalize zdo .burn D = R at HC ⊢
  clear h hr k1
  go_enter Try.func67, Try.ntmps67
  go_wp2_with (first | (go_at_call 19; refine HC.out.mono ?_; rintro e w2 ⟨rfl, hI, hFr⟩))
  go_ret
  exact ⟨rfl, hI, hFr⟩
set_option maxRecDepth 100000 in
set_option maxHeartbeats 1600000 in
theorem zsteps_any (w : World) (d : Nat) : Calls Try.prog 38 #[.pointer (some ⟨d, 0, none⟩)] w fun e w' => e = .returned (.func (.func 61) #[] #[.pointer (some ⟨w.heap.size, 0, none⟩)]) ∧ Blk w' w.heap.size 26 #[.pointer (some ⟨d, 0, none⟩)] ∧ Below w.heap.size w w' := by
  go_enter Try.func38, Try.ntmps38
  go_wp2_with fail
  go_ret
  exact ⟨rfl, Blk.new _ _ _, (Below.refl _ _).alloc (Nat.le_refl _) _⟩
end
end Go.Proofs.Ytgenifcikfbfhaa
