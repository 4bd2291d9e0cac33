/-
  Layer 22 (memory): player.play at a load of an image that is kept.
-/
import Derived.Test.YtgieiehpnjhkoaaMemT8
namespace Go.Proofs.Ytgieiehpnjhkoaa
open Go.RowKit Go.Shelf
attribute [local go_sem] Oper.semAt_some

section
variable {w : World} {p b g : Nat} {v : Value} {s : St}
set_option maxRecDepth 100000 in
set_option maxHeartbeats 4000000 in
theorem play_load_in (h : IsPl 42 70 68 w p b g v s) (i : Nat) (size : Int) (gb n2 c2 : Nat) (hv : v = .slice (some ⟨gb, 0, none⟩) n2 c2) (hi2 : i < n2) (hm : n2 ≤ maxLen) (u : Value) (hu : w.cell? ⟨gb, i, none⟩ = some u) (hgb : gb < w.heap.size)
    (fill : Nat) (A : Option Addr) (n c : Nat) (er : Int) (M2 : List Sec)
    (HC : ∀ w2, Below w.heap.size w w2 → PMem w2 b g s.M → Calls Try.prog 32 #[.pointer (some ⟨b, 0, none⟩), u] w2 fun e w' => e = .returned (.int .i64 er) ∧ PMem w' b g M2 ∧ w2.grownBy w' (some g)) :
    Calls Try.prog 13 #[.pointer (some ⟨p, 0, none⟩), .agg #[.int .i64 6, .int .i64 i, .int .u8 fill, .int .i64 size, .slice A n c]] w fun e w' => e = .returned (.int .i64 er) ∧ IsPl 42 70 68 w' p b g v { s with M := M2 } ∧ w.grownBy w' (some g) := by
  have hop : Blk (w.alloc (.cells #[.int .i64 6, .int .i64 i, .int .u8 fill, .int .i64 size, .slice A n c] 37)) w.heap.size 37 #[.int .i64 6, .int .i64 i, .int .u8 fill, .int .i64 size, .slice A n c] := Blk.new w _ _
  have hB : Below w.heap.size w (w.alloc (.cells #[.int .i64 6, .int .i64 i, .int .u8 fill, .int .i64 size, .slice A n c] 37)) := (Below.refl _ w).alloc (Nat.le_refl _) _
  have d0 : decide (0 ≤ (i : Int)) = true := decide_eq_true (by omega)
  have d1 : decide ((i : Int) < (n2 : Int)) = true := decide_eq_true (by omega)
  have d2 : decide (i < n2) = true := decide_eq_true hi2
  have hi2' : Hid (i < n2 ∧ n2 ≤ maxLen) := ⟨hi2, hm⟩
  have hun : w.cell? ⟨gb, 0 + i * 1, none⟩ = some u := by rw [← hu]; congr 2; omega
  have Hc := Lib.hid HC
  have hbv : Blk w p 42 #[.pointer (some ⟨b, 0, none⟩), .slice (some ⟨gb, 0, none⟩) n2 c2] := by rw [← hv]; exact h.blk
  have H := Lib.hid h
  clear HC h hv
  go_enter Try.func13, Try.ntmps13
  go_wp2_with fail
  generalize (w.alloc (.cells #[.int .i64 6, .int .i64 i, .int .u8 fill, .int .i64 size, .slice A n c] 37)) = w1 at hop hB ⊢
  have hbv1 := hbv.below hB hbv.lt
  have hc0 : w1.cell? ⟨p, 0, none⟩ = some (.pointer (some ⟨b, 0, none⟩)) := hbv1.cell 0
  have hc2 : w1.cell? ⟨p, 1, none⟩ = some (.slice (some ⟨gb, 0, none⟩) n2 c2) := hbv1.cell 1
  have hc1 : w1.cell? ⟨w.heap.size, 1, none⟩ = some (.int .i64 i) := hop.cell 1
  have hu1 : w1.cell? ⟨gb, i, none⟩ = some u := (hB.cell (p := ⟨gb, i, none⟩) hgb).trans hu
  clear hu hun hgb hbv hbv1 hop
  unfold maxLen at hm
  go_wp2_with (first | go_quiet (fail))
  have hB2 : Below w.heap.size w (w1.drewN nq) := below_drewN hB nq
  replace hc0 : (w1.drewN nq).cell? ⟨p, 0, none⟩ = some (.pointer (some ⟨b, 0, none⟩)) := hc0
  replace hc2 : (w1.drewN nq).cell? ⟨p, 1, none⟩ = some (.slice (some ⟨gb, 0, none⟩) n2 c2) := hc2
  replace hc1 : (w1.drewN nq).cell? ⟨w.heap.size, 1, none⟩ = some (.int .i64 i) := hc1
  replace hu1 : (w1.drewN nq).cell? ⟨gb, i, none⟩ = some u := hu1
  clear hB
  generalize (w1.drewN nq) = w2 at hB2 hc0 hc1 hc2 hu1 ⊢
  go_still_tail 12, (by kernel_rfl)
  change wpList _ _ _ _ _ w2.drew
  have h2 : IsPl 42 70 68 w2.drew p b g v s := H.out.below hB2.drew
  replace hB2 : Below w.heap.size w w2.drew := hB2.drew
  generalize w2.drew = w3 at h2 hB2 ⊢
  clear hc0 hc1 hc2 hu1
  go_wp2_with (go_at_call 32; refine (Hc.out _ hB2 h2.mem).mono ?_; rintro e w' ⟨rfl, hM, hg⟩)
  go_ret
  exact ⟨rfl, h2.turn hg hM (by decide) (by decide) (by decide), grown_trans (grown_below hB2 (Nat.le_refl _) _) hg⟩
end
end Go.Proofs.Ytgieiehpnjhkoaa
