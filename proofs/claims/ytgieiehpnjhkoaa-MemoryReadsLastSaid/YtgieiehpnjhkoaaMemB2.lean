/-
  Layer 22 (memory): spec.play at a write.
-/
import Derived.Test.YtgieiehpnjhkoaaMemA3
import Derived.BigRegion
namespace Go.Proofs.Ytgieiehpnjhkoaa
open Go.RowKit Go.Shelf
attribute [local go_sem] Oper.semAt_some

section
variable {w : World} {p b g : Nat} {v : Value} {s : St}
set_option maxRecDepth 100000 in
set_option maxHeartbeats 4000000 in
theorem splay_write (h : IsPl 44 77 79 w p b g v s) (i size : Int) (fill : Nat) (hfill : fill < 256) (A : Option Addr) (n c : Nat) (er : Int) (M2 : List Sec)
    (HC : ∀ w2, RMem w2 b g s.M → Calls Try.prog 34 #[.pointer (some ⟨b, 0, none⟩), .int .i64 i, .string (textOf fill size)] w2 fun e w' => e = .returned (.int .i64 er) ∧ RMem w' b g M2 ∧ w2.grownBy w' (some g)) :
    Calls Try.prog 14 #[.pointer (some ⟨p, 0, none⟩), .agg #[.int .i64 1, .int .i64 i, .int .u8 fill, .int .i64 size, .slice A n c]] w fun e w' => e = .returned (.int .i64 er) ∧ IsPl 44 77 79 w' p b g v { s with M := M2 } ∧ w.grownBy w' (some g) := by
  have hop : Blk (w.alloc (.cells #[.int .i64 1, .int .i64 i, .int .u8 fill, .int .i64 size, .slice A n c] 37)) w.heap.size 37 #[.int .i64 1, .int .i64 i, .int .u8 fill, .int .i64 size, .slice A n c] := Blk.new w _ _
  have hB : Below w.heap.size w (w.alloc (.cells #[.int .i64 1, .int .i64 i, .int .u8 fill, .int .i64 size, .slice A n c] 37)) := (Below.refl _ w).alloc (Nat.le_refl _) _
  have Hc := Lib.hid HC
  clear HC
  go_enter Try.func14, Try.ntmps14
  go_wp2_with fail
  generalize (w.alloc (.cells #[.int .i64 1, .int .i64 i, .int .u8 fill, .int .i64 size, .slice A n c] 37)) = w1 at hop hB ⊢
  have h1 : IsPl 44 77 79 w1 p b g v s := h.below hB
  have hc0 : w1.cell? ⟨p, 0, none⟩ = some (.pointer (some ⟨b, 0, none⟩)) := h1.blk.cell 0
  have o0 : w1.cell? ⟨w.heap.size, 0, none⟩ = some (.int .i64 1) := hop.cell 0
  have o1 : w1.cell? ⟨w.heap.size, 1, none⟩ = some (.int .i64 i) := hop.cell 1
  have o2 : w1.cell? ⟨w.heap.size, 2, none⟩ = some (.int .u8 fill) := hop.cell 2
  have o3 : w1.cell? ⟨w.heap.size, 3, none⟩ = some (.int .i64 size) := hop.cell 3
  have o4 : w1.cell? ⟨w.heap.size, 4, none⟩ = some (.slice A n c) := hop.cell 4
  have lp : p < w1.heap.size := h1.blk.lt
  have lo : w.heap.size < w1.heap.size := hop.lt
  have H1 := Lib.hid h1
  have HB := Lib.hid hB
  have H2 : Hid (IsPl 44 77 79 w1.drew p b g v s) := h1.below ((Below.refl _ _).drew)
  clear h1 hB hop
  go_region_with (first
    | (go_at_call 16; refine (Text_any _ 1 i size fill hfill (.slice A n c) ⟨_, _, _, rfl⟩).mono ?_; rintro e w2 ⟨rfl, hBt⟩; have k0 := (hBt.cell (p := ⟨p, 0, none⟩) lp).trans hc0; have k1 := (hBt.cell (p := ⟨w.heap.size, 1, none⟩) lo).trans o1; have k2 := Lib.hid hBt)
    | (go_at_call 34; refine (Hc.out _ (H2.out.below k2.out).mem).mono ?_; rintro e w' ⟨rfl, hM, hg⟩))
  all_goals go_wp2
  all_goals go_ret
  all_goals exact ⟨rfl, (H2.out.below k2.out).turn hg hM (by decide) (by decide) (by decide), grown_trans (grown_below (HB.out.drew.trans (k2.out.mono HB.out.drew.size)) (Nat.le_refl _) _) hg⟩
end
end Go.Proofs.Ytgieiehpnjhkoaa
