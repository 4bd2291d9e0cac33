/-
  Layer 22 (memory): player.play: stale, wear, flush, cut. (Write, load and save are still to come.)
-/
import Derived.Test.YtgieiehpnjhkoaaMemT4
namespace Go.Proofs.Ytgieiehpnjhkoaa
open Go.RowKit Go.Shelf
attribute [local go_sem] Oper.semAt_some

/-- An operation's value. -/
def opVal (o : PlainOp) (pv : Value) : Value := .agg #[.int .i64 o.kind, .int .i64 o.i, .int .u8 o.fill, .int .i64 o.size, pv]

section
variable {w : World} {p b g : Nat} {v : Value} {s : St}

set_option maxRecDepth 100000 in
set_option maxHeartbeats 4000000 in
theorem play_stale (h : IsPl 42 70 68 w p b g v s) (i size : Int) (fill : Nat) (A : Option Addr) (n c : Nat) (er : Int) (M2 : List Sec)
    (HC : ∀ w2, PMem w2 b g s.M → Calls Try.prog 26 #[.pointer (some ⟨b, 0, none⟩), .int .i64 i] w2 fun e w' => e = .returned (.int .i64 er) ∧ PMem w' b g M2 ∧ w2.grownBy w' (some g)) :
    Calls Try.prog 13 #[.pointer (some ⟨p, 0, none⟩), .agg #[.int .i64 4, .int .i64 i, .int .u8 fill, .int .i64 size, .slice A n c]] w fun e w' => e = .returned (.int .i64 er) ∧ IsPl 42 70 68 w' p b g v { s with M := M2 } ∧ w.grownBy w' (some g) := by
  have hop : Blk (w.alloc (.cells #[.int .i64 4, .int .i64 i, .int .u8 fill, .int .i64 size, .slice A n c] 37)) w.heap.size 37 #[.int .i64 4, .int .i64 i, .int .u8 fill, .int .i64 size, .slice A n c] := Blk.new w _ _
  have hB : Below w.heap.size w (w.alloc (.cells #[.int .i64 4, .int .i64 i, .int .u8 fill, .int .i64 size, .slice A n c] 37)) := (Below.refl _ w).alloc (Nat.le_refl _) _
  have Hc := Lib.hid HC
  clear HC
  go_enter Try.func13, Try.ntmps13
  go_wp2_with fail
  generalize (w.alloc (.cells #[.int .i64 4, .int .i64 i, .int .u8 fill, .int .i64 size, .slice A n c] 37)) = w1 at hop hB ⊢
  have h1 : IsPl 42 70 68 w1 p b g v s := h.below hB
  have hc0 : w1.cell? ⟨p, 0, none⟩ = some (.pointer (some ⟨b, 0, none⟩)) := h1.blk.cell 0
  have hc1 : w1.cell? ⟨w.heap.size, 1, none⟩ = some (.int .i64 i) := hop.cell 1
  go_still_tail 6, (by kernel_rfl)
  change wpList _ _ _ _ _ w1.drew
  have h2 : IsPl 42 70 68 w1.drew p b g v s := h1.below ((Below.refl _ _).drew)
  have hB2 : Below w.heap.size w w1.drew := hB.drew
  generalize w1.drew = w2 at h2 hB2 ⊢
  clear hc0 hc1 h1 hop hB
  go_wp2_with (go_at_call 26; refine (Hc.out _ h2.mem).mono ?_; rintro e w' ⟨rfl, hM, hg⟩)
  go_ret
  exact ⟨rfl, h2.turn hg hM (by decide) (by decide) (by decide), grown_trans (grown_below hB2 (Nat.le_refl _) _) hg⟩
set_option maxRecDepth 100000 in
set_option maxHeartbeats 4000000 in
theorem play_wear (h : IsPl 42 70 68 w p b g v s) (i size : Int) (fill : Nat) (A : Option Addr) (n c : Nat) (er : Int) (M2 : List Sec)
    (HC : ∀ w2, PMem w2 b g s.M → Calls Try.prog 24 #[.pointer (some ⟨b, 0, none⟩), .int .i64 i] w2 fun e w' => e = .returned (.int .i64 er) ∧ PMem w' b g M2 ∧ w2.grownBy w' (some g)) :
    Calls Try.prog 13 #[.pointer (some ⟨p, 0, none⟩), .agg #[.int .i64 5, .int .i64 i, .int .u8 fill, .int .i64 size, .slice A n c]] w fun e w' => e = .returned (.int .i64 er) ∧ IsPl 42 70 68 w' p b g v { s with M := M2 } ∧ w.grownBy w' (some g) := by
  have hop : Blk (w.alloc (.cells #[.int .i64 5, .int .i64 i, .int .u8 fill, .int .i64 size, .slice A n c] 37)) w.heap.size 37 #[.int .i64 5, .int .i64 i, .int .u8 fill, .int .i64 size, .slice A n c] := Blk.new w _ _
  have hB : Below w.heap.size w (w.alloc (.cells #[.int .i64 5, .int .i64 i, .int .u8 fill, .int .i64 size, .slice A n c] 37)) := (Below.refl _ w).alloc (Nat.le_refl _) _
  have Hc := Lib.hid HC
  clear HC
  go_enter Try.func13, Try.ntmps13
  go_wp2_with fail
  generalize (w.alloc (.cells #[.int .i64 5, .int .i64 i, .int .u8 fill, .int .i64 size, .slice A n c] 37)) = w1 at hop hB ⊢
  have h1 : IsPl 42 70 68 w1 p b g v s := h.below hB
  have hc0 : w1.cell? ⟨p, 0, none⟩ = some (.pointer (some ⟨b, 0, none⟩)) := h1.blk.cell 0
  have hc1 : w1.cell? ⟨w.heap.size, 1, none⟩ = some (.int .i64 i) := hop.cell 1
  go_still_tail 6, (by kernel_rfl)
  change wpList _ _ _ _ _ w1.drew
  have h2 : IsPl 42 70 68 w1.drew p b g v s := h1.below ((Below.refl _ _).drew)
  have hB2 : Below w.heap.size w w1.drew := hB.drew
  generalize w1.drew = w2 at h2 hB2 ⊢
  clear hc0 hc1 h1 hop hB
  go_wp2_with (go_at_call 24; refine (Hc.out _ h2.mem).mono ?_; rintro e w' ⟨rfl, hM, hg⟩)
  go_ret
  exact ⟨rfl, h2.turn hg hM (by decide) (by decide) (by decide), grown_trans (grown_below hB2 (Nat.le_refl _) _) hg⟩
set_option maxRecDepth 100000 in
set_option maxHeartbeats 4000000 in
theorem play_flush (h : IsPl 42 70 68 w p b g v s) (i size : Int) (fill : Nat) (A : Option Addr) (n c : Nat) (M2 : List Sec)
    (HC : ∀ w2, PMem w2 b g s.M → Calls Try.prog 20 #[.pointer (some ⟨b, 0, none⟩)] w2 fun e w' => e = .returned (.tuple #[]) ∧ PMem w' b g M2 ∧ w2.grownBy w' (some g)) :
    Calls Try.prog 13 #[.pointer (some ⟨p, 0, none⟩), .agg #[.int .i64 2, .int .i64 i, .int .u8 fill, .int .i64 size, .slice A n c]] w fun e w' => e = .returned (.int .i64 0) ∧ IsPl 42 70 68 w' p b g v { s with M := M2 } ∧ w.grownBy w' (some g) := by
  have hop : Blk (w.alloc (.cells #[.int .i64 2, .int .i64 i, .int .u8 fill, .int .i64 size, .slice A n c] 37)) w.heap.size 37 #[.int .i64 2, .int .i64 i, .int .u8 fill, .int .i64 size, .slice A n c] := Blk.new w _ _
  have hB : Below w.heap.size w (w.alloc (.cells #[.int .i64 2, .int .i64 i, .int .u8 fill, .int .i64 size, .slice A n c] 37)) := (Below.refl _ w).alloc (Nat.le_refl _) _
  have h1 : IsPl 42 70 68 (w.alloc (.cells #[.int .i64 2, .int .i64 i, .int .u8 fill, .int .i64 size, .slice A n c] 37)) p b g v s := h.below hB
  have hc0 : (w.alloc (.cells #[.int .i64 2, .int .i64 i, .int .u8 fill, .int .i64 size, .slice A n c] 37)).cell? ⟨p, 0, none⟩ = some (.pointer (some ⟨b, 0, none⟩)) := h1.blk.cell 0
  have Hc := Lib.hid HC
  have H1 := Lib.hid h1
  have HB := Lib.hid hB
  clear HC hop h1 hB
  go_enter Try.func13, Try.ntmps13
  go_wp2_with (go_at_call 20; refine (Hc.out _ H1.out.mem).mono ?_; rintro e w' ⟨rfl, hM, hg⟩)
  go_ret
  exact ⟨rfl, H1.out.turn hg hM (by decide) (by decide) (by decide), grown_trans (grown_below HB.out (Nat.le_refl _) _) hg⟩
set_option maxRecDepth 100000 in
set_option maxHeartbeats 4000000 in
theorem play_cut (h : IsPl 42 70 68 w p b g v s) (i size : Int) (fill : Nat) (A : Option Addr) (n c : Nat) (M2 : List Sec)
    (HC : ∀ w2, Below w.heap.size w w2 → PMem w2 b g s.M → Calls Try.prog 21 #[.pointer (some ⟨b, 0, none⟩), .slice A n c] w2 fun e w' => e = .returned (.tuple #[]) ∧ PMem w' b g M2 ∧ w2.grownBy w' (some g)) :
    Calls Try.prog 13 #[.pointer (some ⟨p, 0, none⟩), .agg #[.int .i64 3, .int .i64 i, .int .u8 fill, .int .i64 size, .slice A n c]] w fun e w' => e = .returned (.int .i64 0) ∧ IsPl 42 70 68 w' p b g v { s with M := M2 } ∧ w.grownBy w' (some g) := by
  have hop : Blk (w.alloc (.cells #[.int .i64 3, .int .i64 i, .int .u8 fill, .int .i64 size, .slice A n c] 37)) w.heap.size 37 #[.int .i64 3, .int .i64 i, .int .u8 fill, .int .i64 size, .slice A n c] := Blk.new w _ _
  have hB : Below w.heap.size w (w.alloc (.cells #[.int .i64 3, .int .i64 i, .int .u8 fill, .int .i64 size, .slice A n c] 37)) := (Below.refl _ w).alloc (Nat.le_refl _) _
  have Hc := Lib.hid HC
  clear HC
  go_enter Try.func13, Try.ntmps13
  go_wp2_with fail
  generalize (w.alloc (.cells #[.int .i64 3, .int .i64 i, .int .u8 fill, .int .i64 size, .slice A n c] 37)) = w1 at hop hB ⊢
  have h1 : IsPl 42 70 68 w1 p b g v s := h.below hB
  have hc0 : w1.cell? ⟨p, 0, none⟩ = some (.pointer (some ⟨b, 0, none⟩)) := h1.blk.cell 0
  have hc1 : w1.cell? ⟨w.heap.size, 4, none⟩ = some (.slice A n c) := hop.cell 4
  go_still_tail 6, (by kernel_rfl)
  change wpList _ _ _ _ _ w1.drew
  have h2 : IsPl 42 70 68 w1.drew p b g v s := h1.below ((Below.refl _ _).drew)
  have hB2 : Below w.heap.size w w1.drew := hB.drew
  generalize w1.drew = w2 at h2 hB2 ⊢
  clear hc0 hc1 h1 hop hB
  have H2 := Lib.hid h2
  have HB2 := Lib.hid hB2
  clear h2 hB2
  go_wp2_with (go_at_call 21; refine (Hc.out _ HB2.out H2.out.mem).mono ?_; rintro e w' ⟨rfl, hM, hg⟩)
  go_ret
  exact ⟨rfl, H2.out.turn hg hM (by decide) (by decide) (by decide), grown_trans (grown_below HB2.out (Nat.le_refl _) _) hg⟩
end
end Go.Proofs.Ytgieiehpnjhkoaa
