/-
  Layer 23 (device): Raise. (Written by a small program.)
-/
import Derived.Test.YtcifkahmeimniaaGreatG4
namespace Go.Proofs.YtcifkahmeimniaaGreat
open Go.RowKit Go.Shelf
attribute [local go_sem] Oper.semAt_some

section
variable {w : World} {d b g sb sc fb fc : Nat} {D : Dev}
theorem blk_drewN {w : World} {k : Nat} {t : TypeId} {cs : Array Value} (h : Blk w k t cs) (q : Nat) : Blk (w.drewN q) k t cs := h
set_option maxRecDepth 100000 in
set_option maxHeartbeats 1600000 in
theorem dRaise_neg (h : IsDev w d b g sb sc fb fc D) (hr : -1 ≤ D.left ∧ D.left ≤ 9223372036854775807) (n : Int) (hi : n < 0) :
    Calls Tryz.prog 22 #[.pointer (some ⟨d, 0, none⟩), .int .i64 n] w fun e w' => e = .returned (.int .i64 (D.dstep 1 fun D => { D with counter := n }).1) ∧
      IsDev w' d b g sb sc fb fc (D.dstep 1 fun D => { D with counter := n }).2 ∧ DFr w w' d g sb fb := by
  have hs0 : (w.alloc (.cells #[.pointer (some ⟨d, 0, none⟩)] 27)).heap.size = w.heap.size + 1 := by simp
  have q1 : Blk ((w.alloc (.cells #[.pointer (some ⟨d, 0, none⟩)] 27)).alloc (.cells #[.int .i64 n] 3)) w.heap.size 27 #[.pointer (some ⟨d, 0, none⟩)] := (Blk.new w _ _).alloc _
  have q2 : Blk ((w.alloc (.cells #[.pointer (some ⟨d, 0, none⟩)] 27)).alloc (.cells #[.int .i64 n] 3)) (w.heap.size + 1) 3 #[.int .i64 n] := by rw [← hs0]; exact Blk.new _ _ _
  have hB : Below w.heap.size w ((w.alloc (.cells #[.pointer (some ⟨d, 0, none⟩)] 27)).alloc (.cells #[.int .i64 n] 3)) := ((Below.refl _ w).alloc (Nat.le_refl _) _).alloc (by omega) _
  have H := Lib.hid h
  clear h hs0
  have d1 : decide (0 ≤ n) = false := decide_eq_false (by omega)
  clear hi
  go_enter Tryz.func22, Tryz.ntmps22
  go_wp2_with (first | (go_at_call 63; refine (valid_any _ false).mono ?_; rintro e w1 ⟨rfl, rfl⟩))
  generalize ((w.alloc (.cells #[.pointer (some ⟨d, 0, none⟩)] 27)).alloc (.cells #[.int .i64 n] 3)) = W at q1 q2 hB ⊢
  have hst : ∀ q, Hid (Calls Tryz.prog 62 #[.pointer (some ⟨d, 0, none⟩), .int .i64 1, .func (.func 67) #[] #[.pointer (some ⟨w.heap.size + 1, 0, none⟩), .pointer (some ⟨w.heap.size, 0, none⟩)]] (W.drewN q) fun e w' => e = .returned (.int .i64 (D.dstep 1 fun D => { D with counter := n }).1) ∧
      IsDev w' d b g sb sc fb fc (D.dstep 1 fun D => { D with counter := n }).2 ∧ DFr (W.drewN q) w' d g sb fb) := fun q => raise_step (H.out.below (below_drewN hB q)) hr 1 w.heap.size (w.heap.size + 1) n (blk_drewN q1 q) (blk_drewN q2 q)
  have hD := H.out.below hB
  have x1 := q1.cell 0
  have x2 := q2.cell 0
  have x3 := hD.blk.cell 2
  have HB := Lib.hid hB
  clear hD hB q1 q2 hr H
  go_quiet (fail)
  have HST := hst nq
  have HBQ := Lib.hid (below_drewN HB.out nq)
  have y1 : (W.drewN nq).cell? ⟨w.heap.size, 0, none⟩ = some (.pointer (some ⟨d, 0, none⟩)) := x1
  have y2 : (W.drewN nq).cell? ⟨w.heap.size + 1, 0, none⟩ = some (.int .i64 n) := x2
  clear hst x1 x2 x3 HB
  generalize W.drewN nq = W2 at HST HBQ y1 y2 ⊢
  go_wp2_with (first | (go_at_call 62; refine HST.out.mono ?_; rintro e w' ⟨rfl, hE, hF⟩))
  go_ret
  exact ⟨rfl, hE, (DFr.ofBelow HBQ.out).trans hF⟩
set_option maxRecDepth 100000 in
set_option maxHeartbeats 1600000 in
theorem dRaise_big (h : IsDev w d b g sb sc fb fc D) (hr : -1 ≤ D.left ∧ D.left ≤ 9223372036854775807) (n : Int) (hi : 0 ≤ n ∧ 4611686018427387904 < n) :
    Calls Tryz.prog 22 #[.pointer (some ⟨d, 0, none⟩), .int .i64 n] w fun e w' => e = .returned (.int .i64 (D.dstep 1 fun D => { D with counter := n }).1) ∧
      IsDev w' d b g sb sc fb fc (D.dstep 1 fun D => { D with counter := n }).2 ∧ DFr w w' d g sb fb := by
  have hs0 : (w.alloc (.cells #[.pointer (some ⟨d, 0, none⟩)] 27)).heap.size = w.heap.size + 1 := by simp
  have q1 : Blk ((w.alloc (.cells #[.pointer (some ⟨d, 0, none⟩)] 27)).alloc (.cells #[.int .i64 n] 3)) w.heap.size 27 #[.pointer (some ⟨d, 0, none⟩)] := (Blk.new w _ _).alloc _
  have q2 : Blk ((w.alloc (.cells #[.pointer (some ⟨d, 0, none⟩)] 27)).alloc (.cells #[.int .i64 n] 3)) (w.heap.size + 1) 3 #[.int .i64 n] := by rw [← hs0]; exact Blk.new _ _ _
  have hB : Below w.heap.size w ((w.alloc (.cells #[.pointer (some ⟨d, 0, none⟩)] 27)).alloc (.cells #[.int .i64 n] 3)) := ((Below.refl _ w).alloc (Nat.le_refl _) _).alloc (by omega) _
  have H := Lib.hid h
  clear h hs0
  have d1 : decide (0 ≤ n) = true := decide_eq_true hi.1
  have d2 : decide (n ≤ 4611686018427387904) = false := decide_eq_false (by omega)
  clear hi
  go_enter Tryz.func22, Tryz.ntmps22
  go_wp2_with (first | (go_at_call 63; refine (valid_any _ false).mono ?_; rintro e w1 ⟨rfl, rfl⟩))
  generalize ((w.alloc (.cells #[.pointer (some ⟨d, 0, none⟩)] 27)).alloc (.cells #[.int .i64 n] 3)) = W at q1 q2 hB ⊢
  have hst : ∀ q, Hid (Calls Tryz.prog 62 #[.pointer (some ⟨d, 0, none⟩), .int .i64 1, .func (.func 67) #[] #[.pointer (some ⟨w.heap.size + 1, 0, none⟩), .pointer (some ⟨w.heap.size, 0, none⟩)]] (W.drewN q) fun e w' => e = .returned (.int .i64 (D.dstep 1 fun D => { D with counter := n }).1) ∧
      IsDev w' d b g sb sc fb fc (D.dstep 1 fun D => { D with counter := n }).2 ∧ DFr (W.drewN q) w' d g sb fb) := fun q => raise_step (H.out.below (below_drewN hB q)) hr 1 w.heap.size (w.heap.size + 1) n (blk_drewN q1 q) (blk_drewN q2 q)
  have hD := H.out.below hB
  have x1 := q1.cell 0
  have x2 := q2.cell 0
  have x3 := hD.blk.cell 2
  have HB := Lib.hid hB
  clear hD hB q1 q2 hr H
  go_quiet (fail)
  have HST := hst nq
  have HBQ := Lib.hid (below_drewN HB.out nq)
  have y1 : (W.drewN nq).cell? ⟨w.heap.size, 0, none⟩ = some (.pointer (some ⟨d, 0, none⟩)) := x1
  have y2 : (W.drewN nq).cell? ⟨w.heap.size + 1, 0, none⟩ = some (.int .i64 n) := x2
  clear hst x1 x2 x3 HB
  generalize W.drewN nq = W2 at HST HBQ y1 y2 ⊢
  go_wp2_with (first | (go_at_call 62; refine HST.out.mono ?_; rintro e w' ⟨rfl, hE, hF⟩))
  go_ret
  exact ⟨rfl, hE, (DFr.ofBelow HBQ.out).trans hF⟩
set_option maxRecDepth 100000 in
set_option maxHeartbeats 1600000 in
theorem dRaise_old (h : IsDev w d b g sb sc fb fc D) (hr : -1 ≤ D.left ∧ D.left ≤ 9223372036854775807) (n : Int) (hi : 0 ≤ n ∧ n ≤ 4611686018427387904 ∧ n < D.counter) :
    Calls Tryz.prog 22 #[.pointer (some ⟨d, 0, none⟩), .int .i64 n] w fun e w' => e = .returned (.int .i64 (D.dstep 20 fun D => { D with counter := n }).1) ∧
      IsDev w' d b g sb sc fb fc (D.dstep 20 fun D => { D with counter := n }).2 ∧ DFr w w' d g sb fb := by
  have hs0 : (w.alloc (.cells #[.pointer (some ⟨d, 0, none⟩)] 27)).heap.size = w.heap.size + 1 := by simp
  have q1 : Blk ((w.alloc (.cells #[.pointer (some ⟨d, 0, none⟩)] 27)).alloc (.cells #[.int .i64 n] 3)) w.heap.size 27 #[.pointer (some ⟨d, 0, none⟩)] := (Blk.new w _ _).alloc _
  have q2 : Blk ((w.alloc (.cells #[.pointer (some ⟨d, 0, none⟩)] 27)).alloc (.cells #[.int .i64 n] 3)) (w.heap.size + 1) 3 #[.int .i64 n] := by rw [← hs0]; exact Blk.new _ _ _
  have hB : Below w.heap.size w ((w.alloc (.cells #[.pointer (some ⟨d, 0, none⟩)] 27)).alloc (.cells #[.int .i64 n] 3)) := ((Below.refl _ w).alloc (Nat.le_refl _) _).alloc (by omega) _
  have H := Lib.hid h
  clear h hs0
  have d1 : decide (0 ≤ n) = true := decide_eq_true hi.1
  have d2 : decide (n ≤ 4611686018427387904) = true := decide_eq_true hi.2.1
  have d3 : decide (n < D.counter) = true := decide_eq_true hi.2.2
  clear hi
  go_enter Tryz.func22, Tryz.ntmps22
  go_wp2_with (first | (go_at_call 63; refine (valid_any _ true).mono ?_; rintro e w1 ⟨rfl, rfl⟩))
  generalize ((w.alloc (.cells #[.pointer (some ⟨d, 0, none⟩)] 27)).alloc (.cells #[.int .i64 n] 3)) = W at q1 q2 hB ⊢
  have hst : ∀ q, Hid (Calls Tryz.prog 62 #[.pointer (some ⟨d, 0, none⟩), .int .i64 20, .func (.func 67) #[] #[.pointer (some ⟨w.heap.size + 1, 0, none⟩), .pointer (some ⟨w.heap.size, 0, none⟩)]] (W.drewN q) fun e w' => e = .returned (.int .i64 (D.dstep 20 fun D => { D with counter := n }).1) ∧
      IsDev w' d b g sb sc fb fc (D.dstep 20 fun D => { D with counter := n }).2 ∧ DFr (W.drewN q) w' d g sb fb) := fun q => raise_step (H.out.below (below_drewN hB q)) hr 20 w.heap.size (w.heap.size + 1) n (blk_drewN q1 q) (blk_drewN q2 q)
  have hD := H.out.below hB
  have x1 := q1.cell 0
  have x2 := q2.cell 0
  have x3 := hD.blk.cell 2
  have HB := Lib.hid hB
  clear hD hB q1 q2 hr H
  go_quiet (fail)
  have HST := hst nq
  have HBQ := Lib.hid (below_drewN HB.out nq)
  have y1 : (W.drewN nq).cell? ⟨w.heap.size, 0, none⟩ = some (.pointer (some ⟨d, 0, none⟩)) := x1
  have y2 : (W.drewN nq).cell? ⟨w.heap.size + 1, 0, none⟩ = some (.int .i64 n) := x2
  clear hst x1 x2 x3 HB
  generalize W.drewN nq = W2 at HST HBQ y1 y2 ⊢
  go_wp2_with (first | (go_at_call 62; refine HST.out.mono ?_; rintro e w' ⟨rfl, hE, hF⟩))
  go_ret
  exact ⟨rfl, hE, (DFr.ofBelow HBQ.out).trans hF⟩
set_option maxRecDepth 100000 in
set_option maxHeartbeats 1600000 in
theorem dRaise_ok (h : IsDev w d b g sb sc fb fc D) (hr : -1 ≤ D.left ∧ D.left ≤ 9223372036854775807) (n : Int) (hi : 0 ≤ n ∧ n ≤ 4611686018427387904 ∧ ¬ n < D.counter) :
    Calls Tryz.prog 22 #[.pointer (some ⟨d, 0, none⟩), .int .i64 n] w fun e w' => e = .returned (.int .i64 (D.dstep 0 fun D => { D with counter := n }).1) ∧
      IsDev w' d b g sb sc fb fc (D.dstep 0 fun D => { D with counter := n }).2 ∧ DFr w w' d g sb fb := by
  have hs0 : (w.alloc (.cells #[.pointer (some ⟨d, 0, none⟩)] 27)).heap.size = w.heap.size + 1 := by simp
  have q1 : Blk ((w.alloc (.cells #[.pointer (some ⟨d, 0, none⟩)] 27)).alloc (.cells #[.int .i64 n] 3)) w.heap.size 27 #[.pointer (some ⟨d, 0, none⟩)] := (Blk.new w _ _).alloc _
  have q2 : Blk ((w.alloc (.cells #[.pointer (some ⟨d, 0, none⟩)] 27)).alloc (.cells #[.int .i64 n] 3)) (w.heap.size + 1) 3 #[.int .i64 n] := by rw [← hs0]; exact Blk.new _ _ _
  have hB : Below w.heap.size w ((w.alloc (.cells #[.pointer (some ⟨d, 0, none⟩)] 27)).alloc (.cells #[.int .i64 n] 3)) := ((Below.refl _ w).alloc (Nat.le_refl _) _).alloc (by omega) _
  have H := Lib.hid h
  clear h hs0
  have d1 : decide (0 ≤ n) = true := decide_eq_true hi.1
  have d2 : decide (n ≤ 4611686018427387904) = true := decide_eq_true hi.2.1
  have d3 : decide (n < D.counter) = false := decide_eq_false hi.2.2
  clear hi
  go_enter Tryz.func22, Tryz.ntmps22
  go_wp2_with (first | (go_at_call 63; refine (valid_any _ true).mono ?_; rintro e w1 ⟨rfl, rfl⟩))
  generalize ((w.alloc (.cells #[.pointer (some ⟨d, 0, none⟩)] 27)).alloc (.cells #[.int .i64 n] 3)) = W at q1 q2 hB ⊢
  have hst : ∀ q, Hid (Calls Tryz.prog 62 #[.pointer (some ⟨d, 0, none⟩), .int .i64 0, .func (.func 67) #[] #[.pointer (some ⟨w.heap.size + 1, 0, none⟩), .pointer (some ⟨w.heap.size, 0, none⟩)]] (W.drewN q) fun e w' => e = .returned (.int .i64 (D.dstep 0 fun D => { D with counter := n }).1) ∧
      IsDev w' d b g sb sc fb fc (D.dstep 0 fun D => { D with counter := n }).2 ∧ DFr (W.drewN q) w' d g sb fb) := fun q => raise_step (H.out.below (below_drewN hB q)) hr 0 w.heap.size (w.heap.size + 1) n (blk_drewN q1 q) (blk_drewN q2 q)
  have hD := H.out.below hB
  have x1 := q1.cell 0
  have x2 := q2.cell 0
  have x3 := hD.blk.cell 2
  have HB := Lib.hid hB
  clear hD hB q1 q2 hr H
  go_quiet (fail)
  have HST := hst nq
  have HBQ := Lib.hid (below_drewN HB.out nq)
  have y1 : (W.drewN nq).cell? ⟨w.heap.size, 0, none⟩ = some (.pointer (some ⟨d, 0, none⟩)) := x1
  have y2 : (W.drewN nq).cell? ⟨w.heap.size + 1, 0, none⟩ = some (.int .i64 n) := x2
  clear hst x1 x2 x3 HB
  generalize W.drewN nq = W2 at HST HBQ y1 y2 ⊢
  go_wp2_with (first | (go_at_call 62; refine HST.out.mono ?_; rintro e w' ⟨rfl, hE, hF⟩))
  go_ret
  exact ⟨rfl, hE, (DFr.ofBelow HBQ.out).trans hF⟩
theorem dRaise_any (h : IsDev w d b g sb sc fb fc D) (hr : -1 ≤ D.left ∧ D.left ≤ 9223372036854775807) (n : Int) :
    Calls Tryz.prog 22 #[.pointer (some ⟨d, 0, none⟩), .int .i64 n] w fun e w' => e = .returned (.int .i64 (D.dstep (if 0 ≤ n ∧ n ≤ 4611686018427387904 then (if n < D.counter then 20 else 0) else 1) fun D => { D with counter := n }).1) ∧
      IsDev w' d b g sb sc fb fc (D.dstep (if 0 ≤ n ∧ n ≤ 4611686018427387904 then (if n < D.counter then 20 else 0) else 1) fun D => { D with counter := n }).2 ∧ DFr w w' d g sb fb := by
  by_cases hn : 0 ≤ n ∧ n ≤ 4611686018427387904
  · rw [if_pos hn]
    by_cases ho : n < D.counter
    · rw [if_pos ho]
      exact dRaise_old h hr n ⟨hn.1, hn.2, ho⟩
    · rw [if_neg ho]
      exact dRaise_ok h hr n ⟨hn.1, hn.2, ho⟩
  · rw [if_neg hn]
    by_cases h0 : n < 0
    · exact dRaise_neg h hr n h0
    · exact dRaise_big h hr n ⟨by omega, by omega⟩
end
end Go.Proofs.YtcifkahmeimniaaGreat
