/-
  Layer 22 (memory): player.play at a load.
-/
import Derived.Test.YtgieiehpnjhkoaaMemT7
namespace Go.Proofs.Ytgieiehpnjhkoaa
open Go.RowKit Go.Shelf
attribute [local go_sem] Oper.semAt_some

section
variable {w : World} {p b g : Nat} {v : Value} {s : St}
set_option maxRecDepth 100000 in
set_option maxHeartbeats 4000000 in
theorem play_load_neg (h : IsPl 42 70 68 w p b g v s) (i size : Int) (hi : i < 0) (fill : Nat) (A : Option Addr) (n c : Nat) (er : Int) (M2 : List Sec)
    (HC : ∀ w2, PMem w2 b g s.M → Calls Try.prog 32 #[.pointer (some ⟨b, 0, none⟩), .slice none 0 0] w2 fun e w' => e = .returned (.int .i64 er) ∧ PMem w' b g M2 ∧ w2.grownBy w' (some g)) :
    Calls Try.prog 13 #[.pointer (some ⟨p, 0, none⟩), .agg #[.int .i64 6, .int .i64 i, .int .u8 fill, .int .i64 size, .slice A n c]] w fun e w' => e = .returned (.int .i64 er) ∧ IsPl 42 70 68 w' p b g v { s with M := M2 } ∧ w.grownBy w' (some g) := by
  have hB : Below w.heap.size w (w.alloc (.cells #[.int .i64 6, .int .i64 i, .int .u8 fill, .int .i64 size, .slice A n c] 37)) := (Below.refl _ w).alloc (Nat.le_refl _) _
  have h1 : IsPl 42 70 68 (w.alloc (.cells #[.int .i64 6, .int .i64 i, .int .u8 fill, .int .i64 size, .slice A n c] 37)) p b g v s := h.below hB
  have hc0 : (w.alloc (.cells #[.int .i64 6, .int .i64 i, .int .u8 fill, .int .i64 size, .slice A n c] 37)).cell? ⟨p, 0, none⟩ = some (.pointer (some ⟨b, 0, none⟩)) := h1.blk.cell 0
  have d0 : decide (0 ≤ i) = false := decide_eq_false (by omega)
  have Hc := Lib.hid HC
  have H1 := Lib.hid h1
  have HB := Lib.hid hB
  clear HC h1 hB
  go_enter Try.func13, Try.ntmps13
  go_wp2_with (first | (go_at_call 32; refine (Hc.out _ (H1.out.below (below_drewN (Below.refl _ _) _)).mem).mono ?_; rintro e w' ⟨rfl, hM, hg⟩) | go_quiet (fail))
  go_ret
  exact ⟨rfl, (H1.out.below (below_drewN (Below.refl _ _) _)).turn hg hM (by decide) (by decide) (by decide), grown_trans (grown_below (below_drewN HB.out _) (Nat.le_refl _) _) hg⟩
set_option maxRecDepth 100000 in
set_option maxHeartbeats 4000000 in
theorem play_load_far (h : IsPl 42 70 68 w p b g v s) (i size : Int) (hi : 0 ≤ i) (A2 : Option Addr) (n2 c2 : Nat) (hv : v = .slice A2 n2 c2) (hi2 : (n2 : Int) ≤ i) (fill : Nat) (A : Option Addr) (n c : Nat) (er : Int) (M2 : List Sec)
    (HC : ∀ w2, PMem w2 b g s.M → Calls Try.prog 32 #[.pointer (some ⟨b, 0, none⟩), .slice none 0 0] w2 fun e w' => e = .returned (.int .i64 er) ∧ PMem w' b g M2 ∧ w2.grownBy w' (some g)) :
    Calls Try.prog 13 #[.pointer (some ⟨p, 0, none⟩), .agg #[.int .i64 6, .int .i64 i, .int .u8 fill, .int .i64 size, .slice A n c]] w fun e w' => e = .returned (.int .i64 er) ∧ IsPl 42 70 68 w' p b g v { s with M := M2 } ∧ w.grownBy w' (some g) := by
  have hB : Below w.heap.size w (w.alloc (.cells #[.int .i64 6, .int .i64 i, .int .u8 fill, .int .i64 size, .slice A n c] 37)) := (Below.refl _ w).alloc (Nat.le_refl _) _
  have h1 : IsPl 42 70 68 (w.alloc (.cells #[.int .i64 6, .int .i64 i, .int .u8 fill, .int .i64 size, .slice A n c] 37)) p b g v s := h.below hB
  have hc0 : (w.alloc (.cells #[.int .i64 6, .int .i64 i, .int .u8 fill, .int .i64 size, .slice A n c] 37)).cell? ⟨p, 0, none⟩ = some (.pointer (some ⟨b, 0, none⟩)) := h1.blk.cell 0
  have hc1 : (w.alloc (.cells #[.int .i64 6, .int .i64 i, .int .u8 fill, .int .i64 size, .slice A n c] 37)).cell? ⟨p, 1, none⟩ = some (.slice A2 n2 c2) := by rw [← hv]; exact h1.blk.cell 1
  have d0 : decide (0 ≤ i) = true := decide_eq_true hi
  have d1 : decide (i < (n2 : Int)) = false := decide_eq_false (by omega)
  have Hc := Lib.hid HC
  have H1 := Lib.hid h1
  have HB := Lib.hid hB
  clear HC h1 hB
  clear hv
  go_enter Try.func13, Try.ntmps13
  go_wp2_with (first | (go_at_call 32; refine (Hc.out _ (H1.out.below (below_drewN (Below.refl _ _) _)).mem).mono ?_; rintro e w' ⟨rfl, hM, hg⟩) | go_quiet (fail))
  go_ret
  exact ⟨rfl, (H1.out.below (below_drewN (Below.refl _ _) _)).turn hg hM (by decide) (by decide) (by decide), grown_trans (grown_below (below_drewN HB.out _) (Nat.le_refl _) _) hg⟩
end
end Go.Proofs.Ytgieiehpnjhkoaa
