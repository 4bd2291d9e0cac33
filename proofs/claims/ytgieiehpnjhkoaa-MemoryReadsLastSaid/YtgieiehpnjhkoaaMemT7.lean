/-
  Layer 22 (memory): player.play at any other kind.
-/
import Derived.Test.YtgieiehpnjhkoaaMemT6
namespace Go.Proofs.Ytgieiehpnjhkoaa
open Go.RowKit Go.Shelf
attribute [local go_sem] Oper.semAt_some

section
variable {w : World} {p b g : Nat} {v : Value} {s : St}
set_option maxRecDepth 100000 in
set_option maxHeartbeats 4000000 in
theorem play_other (h : IsPl 42 70 68 w p b g v s) (k i size : Int) (fill : Nat) (A : Option Addr) (n c : Nat) (hk : k < 1 ∨ 7 < k) :
    Calls Try.prog 13 #[.pointer (some ⟨p, 0, none⟩), .agg #[.int .i64 k, .int .i64 i, .int .u8 fill, .int .i64 size, .slice A n c]] w fun e w' => e = .returned (.int .i64 0) ∧ IsPl 42 70 68 w' p b g v s ∧ Below w.heap.size w w' := by
  have hB : Below w.heap.size w (w.alloc (.cells #[.int .i64 k, .int .i64 i, .int .u8 fill, .int .i64 size, .slice A n c] 37)) := (Below.refl _ w).alloc (Nat.le_refl _) _
  have k1 : (k == 1) = false := beq_f (by omega)
  have k2 : (k == 2) = false := beq_f (by omega)
  have k3 : (k == 3) = false := beq_f (by omega)
  have k4 : (k == 4) = false := beq_f (by omega)
  have k5 : (k == 5) = false := beq_f (by omega)
  have k6 : (k == 6) = false := beq_f (by omega)
  have k7 : (k == 7) = false := beq_f (by omega)
  have H := Lib.hid h
  have HB := Lib.hid hB
  clear hk h hB
  go_enter Try.func13, Try.ntmps13
  go_wp2_with fail
  go_ret
  exact ⟨rfl, H.out.below HB.out, HB.out⟩
end
end Go.Proofs.Ytgieiehpnjhkoaa
