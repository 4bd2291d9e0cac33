/-
  Layer 23 (device): Write. (Written by a small program.)
-/
import Derived.Test.YtgdpgiegiacepaaDoorG4
namespace Go.Proofs.YtgdpgiegiacepaaDoor
open Go.RowKit Go.Shelf
attribute [local go_sem] Oper.semAt_some

section
variable {w : World} {d b g sb sc fb fc : Nat} {D : Dev}
theorem chk_pos {p : Prop} [Decidable p] (h : p) : chk p = 0 := by unfold chk; rw [if_pos h]
theorem chk_neg {p : Prop} [Decidable p] (h : ¬ p) : chk p = 1 := by unfold chk; rw [if_neg h]
theorem of_chk {p : Prop} [Decidable p] (h : chk p = 0) : p := by
  unfold chk at h
  split at h
  · assumption
  · omega
theorem write_step (h : IsDev w d b g sb sc fb fc D) (hr : -1 ≤ D.left ∧ D.left ≤ 9223372036854775807) (bd bi bt : Nat) (i : Int) (t : ByteArray) (k1 : Blk w bd 24 #[.pointer (some ⟨d, 0, none⟩)]) (k2 : Blk w bi 3 #[.int .i64 i]) (k3 : Blk w bt 9 #[.string t]) :
    Calls Tryd.prog 64 #[.pointer (some ⟨d, 0, none⟩), .int .i64 (chk (isAt D.M i ∧ t.size = 64)), .func (.func 66) #[] #[.pointer (some ⟨bd, 0, none⟩), .pointer (some ⟨bi, 0, none⟩), .pointer (some ⟨bt, 0, none⟩)]] w fun e w' => e = .returned (.int .i64 (D.dstep (chk (isAt D.M i ∧ t.size = 64)) fun D => { D with M := upd (fun s => s.write t) D.M i }).1) ∧
      IsDev w' d b g sb sc fb fc (D.dstep (chk (isAt D.M i ∧ t.size = 64)) fun D => { D with M := upd (fun s => s.write t) D.M i }).2 ∧ DFr w w' d g sb fb := by
  refine step_any h hr _ _ _ eg_write _ (fun hc w2 h2 hg => ?_)
  have hp := of_chk hc
  have n1 := k1.ne_ h.blk (by decide)
  have n2 := k2.ne_ h.blk (by decide)
  have n3 := k3.ne_ h.blk (by decide)
  refine (write1_any h2 bd bi bt i t (k1.grown hg (fun e => n1 (by cases e; rfl))) (k2.grown hg (fun e => n2 (by cases e; rfl))) (k3.grown hg (fun e => n3 (by cases e; rfl)))).mono ?_
  rintro e w' ⟨rfl, h3, h4⟩
  rw [if_pos hp] at h3
  exact ⟨rfl, h3, DFr.ofGrown h4 (.inr (.inl rfl))⟩
set_option maxRecDepth 100000 in
set_option maxHeartbeats 4000000 in
theorem dWrite_in (h : IsDev w d b g sb sc fb fc D) (_hr : -1 ≤ D.left ∧ D.left ≤ 9223372036854775807) (i : Int) (t : ByteArray) (hi : isAt D.M i) (ht : t.size = 64) (R : Int) (E : Dev) (HE : ∀ w2 bd bi bt, IsDev w2 d b g sb sc fb fc D → Blk w2 bd 24 #[.pointer (some ⟨d, 0, none⟩)] → Blk w2 bi 3 #[.int .i64 i] → Blk w2 bt 9 #[.string t] →
      Calls Tryd.prog 64 #[.pointer (some ⟨d, 0, none⟩), .int .i64 0, .func (.func 66) #[] #[.pointer (some ⟨bd, 0, none⟩), .pointer (some ⟨bi, 0, none⟩), .pointer (some ⟨bt, 0, none⟩)]] w2 fun e w' => e = .returned (.int .i64 R) ∧ IsDev w' d b g sb sc fb fc E ∧ DFr w2 w' d g sb fb) :
    Calls Tryd.prog 45 #[.pointer (some ⟨d, 0, none⟩), .int .i64 i, .string t] w fun e w' => e = .returned (.int .i64 R) ∧ IsDev w' d b g sb sc fb fc E ∧ DFr w w' d g sb fb := by
  have hs1 : ((w.alloc (.cells #[.pointer (some ⟨d, 0, none⟩)] 24)).alloc (.cells #[.int .i64 i] 3)).heap.size = w.heap.size + 1 + 1 := by simp
  have hs0 : (w.alloc (.cells #[.pointer (some ⟨d, 0, none⟩)] 24)).heap.size = w.heap.size + 1 := by simp
  have q1 : Blk (((w.alloc (.cells #[.pointer (some ⟨d, 0, none⟩)] 24)).alloc (.cells #[.int .i64 i] 3)).alloc (.cells #[.string t] 9)) w.heap.size 24 #[.pointer (some ⟨d, 0, none⟩)] := ((Blk.new w _ _).alloc _).alloc _
  have q2 : Blk (((w.alloc (.cells #[.pointer (some ⟨d, 0, none⟩)] 24)).alloc (.cells #[.int .i64 i] 3)).alloc (.cells #[.string t] 9)) (w.heap.size + 1) 3 #[.int .i64 i] := by rw [← hs0]; exact (Blk.new _ _ _).alloc _
  have q3 : Blk (((w.alloc (.cells #[.pointer (some ⟨d, 0, none⟩)] 24)).alloc (.cells #[.int .i64 i] 3)).alloc (.cells #[.string t] 9)) (w.heap.size + 1 + 1) 9 #[.string t] := by rw [← hs1]; exact Blk.new _ _ _
  have hB : Below w.heap.size w (((w.alloc (.cells #[.pointer (some ⟨d, 0, none⟩)] 24)).alloc (.cells #[.int .i64 i] 3)).alloc (.cells #[.string t] 9)) := (((Below.refl _ w).alloc (Nat.le_refl _) _).alloc (by omega) _).alloc (by omega) _
  have ls := (h.srow.lt sb rfl).2
  have lf := (h.frow.lt fb rfl).2
  have ld := h.blk.lt
  have lg := h.mem.lt.2
  have HH := Lib.hid HE
  have H := Lib.hid h
  clear HE h hs1 hs0
  go_enter Tryd.func45, Tryd.ntmps45
  go_wp2_with fail
  generalize (((w.alloc (.cells #[.pointer (some ⟨d, 0, none⟩)] 24)).alloc (.cells #[.int .i64 i] 3)).alloc (.cells #[.string t] 9)) = W at q1 q2 q3 hB ⊢
  have hD : IsDev W.drew d b g sb sc fb fc D := H.out.below (hB.drew)
  have hBB := Lib.hid hB.drew
  have hst := Lib.hid (HH.out W.drew _ _ _ hD q1.drew q2.drew q3.drew)
  have hK : Hid (∀ w', DFr W.drew w' d g sb fb → Blk w' w.heap.size 24 #[.pointer (some ⟨d, 0, none⟩)] ∧ Blk w' (w.heap.size + 1) 3 #[.int .i64 i] ∧ Blk w' (w.heap.size + 1 + 1) 9 #[.string t]) := fun w' hF =>
    ⟨(hF.rest _ q1.lt (by omega) (by omega) (by omega) (by omega)).trans q1, (hF.rest _ q2.lt (by omega) (by omega) (by omega) (by omega)).trans q2, (hF.rest _ q3.lt (by omega) (by omega) (by omega) (by omega)).trans q3⟩
  have x1 := q1.cell 0
  have x2 := q2.cell 0
  have x3 := q3.cell 0
  have x4 := hD.blk.cell 4
  have HL := Lib.hid (len_any hD.mem)
  clear q1 q2 q3 hB hD ls lf ld lg _hr
  have d1 : decide (0 ≤ i) = true := decide_eq_true hi.1
  have d2 : decide (i < (D.M.length : Int)) = true := decide_eq_true hi.2
  have d3 : ((t.size : Int) == 64) = true := by rw [ht]; rfl
  clear hi ht
  go_region_held3 (fun w' => w'.cell? ⟨w.heap.size, 0, none⟩ = some (.pointer (some ⟨d, 0, none⟩)) ∧ w'.cell? ⟨w.heap.size + 1, 0, none⟩ = some (.int .i64 i) ∧ w'.cell? ⟨w.heap.size + 1 + 1, 0, none⟩ = some (.string t) ∧ w'.cell? ⟨d, 4, none⟩ = some (.pointer (some ⟨b, 0, none⟩))) (go_keep)
    (first
    | (go_at_call 52; refine HL.out.mono ?_; rintro e w1 ⟨rfl, rfl⟩)
    | (go_at_call 65; refine (valid_any _ true).mono ?_; rintro e w1 ⟨rfl, rfl⟩)
    | (go_at_call 64; refine hst.out.mono ?_; rintro e w' ⟨rfl, hE, hF⟩; obtain ⟨j1, j2, j3⟩ := hK.out _ hF; have y1 := j1.cell 0; have y2 := j2.cell 0; have y3 := j3.cell 0; have y4 := hE.blk.cell 4))
  all_goals go_wp2_with fail
  all_goals go_ret
  all_goals exact ⟨rfl, hE, (DFr.ofBelow hBB.out).trans hF⟩
set_option maxRecDepth 100000 in
set_option maxHeartbeats 4000000 in
theorem dWrite_size (h : IsDev w d b g sb sc fb fc D) (_hr : -1 ≤ D.left ∧ D.left ≤ 9223372036854775807) (i : Int) (t : ByteArray) (hi : isAt D.M i) (ht : t.size ≠ 64) (R : Int) (E : Dev) (HE : ∀ w2 bd bi bt, IsDev w2 d b g sb sc fb fc D → Blk w2 bd 24 #[.pointer (some ⟨d, 0, none⟩)] → Blk w2 bi 3 #[.int .i64 i] → Blk w2 bt 9 #[.string t] →
      Calls Tryd.prog 64 #[.pointer (some ⟨d, 0, none⟩), .int .i64 1, .func (.func 66) #[] #[.pointer (some ⟨bd, 0, none⟩), .pointer (some ⟨bi, 0, none⟩), .pointer (some ⟨bt, 0, none⟩)]] w2 fun e w' => e = .returned (.int .i64 R) ∧ IsDev w' d b g sb sc fb fc E ∧ DFr w2 w' d g sb fb) :
    Calls Tryd.prog 45 #[.pointer (some ⟨d, 0, none⟩), .int .i64 i, .string t] w fun e w' => e = .returned (.int .i64 R) ∧ IsDev w' d b g sb sc fb fc E ∧ DFr w w' d g sb fb := by
  have hs1 : ((w.alloc (.cells #[.pointer (some ⟨d, 0, none⟩)] 24)).alloc (.cells #[.int .i64 i] 3)).heap.size = w.heap.size + 1 + 1 := by simp
  have hs0 : (w.alloc (.cells #[.pointer (some ⟨d, 0, none⟩)] 24)).heap.size = w.heap.size + 1 := by simp
  have q1 : Blk (((w.alloc (.cells #[.pointer (some ⟨d, 0, none⟩)] 24)).alloc (.cells #[.int .i64 i] 3)).alloc (.cells #[.string t] 9)) w.heap.size 24 #[.pointer (some ⟨d, 0, none⟩)] := ((Blk.new w _ _).alloc _).alloc _
  have q2 : Blk (((w.alloc (.cells #[.pointer (some ⟨d, 0, none⟩)] 24)).alloc (.cells #[.int .i64 i] 3)).alloc (.cells #[.string t] 9)) (w.heap.size + 1) 3 #[.int .i64 i] := by rw [← hs0]; exact (Blk.new _ _ _).alloc _
  have q3 : Blk (((w.alloc (.cells #[.pointer (some ⟨d, 0, none⟩)] 24)).alloc (.cells #[.int .i64 i] 3)).alloc (.cells #[.string t] 9)) (w.heap.size + 1 + 1) 9 #[.string t] := by rw [← hs1]; exact Blk.new _ _ _
  have hB : Below w.heap.size w (((w.alloc (.cells #[.pointer (some ⟨d, 0, none⟩)] 24)).alloc (.cells #[.int .i64 i] 3)).alloc (.cells #[.string t] 9)) := (((Below.refl _ w).alloc (Nat.le_refl _) _).alloc (by omega) _).alloc (by omega) _
  have ls := (h.srow.lt sb rfl).2
  have lf := (h.frow.lt fb rfl).2
  have ld := h.blk.lt
  have lg := h.mem.lt.2
  have HH := Lib.hid HE
  have H := Lib.hid h
  clear HE h hs1 hs0
  go_enter Tryd.func45, Tryd.ntmps45
  go_wp2_with fail
  generalize (((w.alloc (.cells #[.pointer (some ⟨d, 0, none⟩)] 24)).alloc (.cells #[.int .i64 i] 3)).alloc (.cells #[.string t] 9)) = W at q1 q2 q3 hB ⊢
  have hD : IsDev W.drew d b g sb sc fb fc D := H.out.below (hB.drew)
  have hBB := Lib.hid hB.drew
  have hst := Lib.hid (HH.out W.drew _ _ _ hD q1.drew q2.drew q3.drew)
  have hK : Hid (∀ w', DFr W.drew w' d g sb fb → Blk w' w.heap.size 24 #[.pointer (some ⟨d, 0, none⟩)] ∧ Blk w' (w.heap.size + 1) 3 #[.int .i64 i] ∧ Blk w' (w.heap.size + 1 + 1) 9 #[.string t]) := fun w' hF =>
    ⟨(hF.rest _ q1.lt (by omega) (by omega) (by omega) (by omega)).trans q1, (hF.rest _ q2.lt (by omega) (by omega) (by omega) (by omega)).trans q2, (hF.rest _ q3.lt (by omega) (by omega) (by omega) (by omega)).trans q3⟩
  have x1 := q1.cell 0
  have x2 := q2.cell 0
  have x3 := q3.cell 0
  have x4 := hD.blk.cell 4
  have HL := Lib.hid (len_any hD.mem)
  clear q1 q2 q3 hB hD ls lf ld lg _hr
  have d1 : decide (0 ≤ i) = true := decide_eq_true hi.1
  have d2 : decide (i < (D.M.length : Int)) = true := decide_eq_true hi.2
  have d3 : ((t.size : Int) == 64) = false := beq_f (by omega)
  clear hi ht
  go_region_held3 (fun w' => w'.cell? ⟨w.heap.size, 0, none⟩ = some (.pointer (some ⟨d, 0, none⟩)) ∧ w'.cell? ⟨w.heap.size + 1, 0, none⟩ = some (.int .i64 i) ∧ w'.cell? ⟨w.heap.size + 1 + 1, 0, none⟩ = some (.string t) ∧ w'.cell? ⟨d, 4, none⟩ = some (.pointer (some ⟨b, 0, none⟩))) (go_keep)
    (first
    | (go_at_call 52; refine HL.out.mono ?_; rintro e w1 ⟨rfl, rfl⟩)
    | (go_at_call 65; refine (valid_any _ false).mono ?_; rintro e w1 ⟨rfl, rfl⟩)
    | (go_at_call 64; refine hst.out.mono ?_; rintro e w' ⟨rfl, hE, hF⟩; obtain ⟨j1, j2, j3⟩ := hK.out _ hF; have y1 := j1.cell 0; have y2 := j2.cell 0; have y3 := j3.cell 0; have y4 := hE.blk.cell 4))
  all_goals go_wp2_with fail
  all_goals go_ret
  all_goals exact ⟨rfl, hE, (DFr.ofBelow hBB.out).trans hF⟩
end
end Go.Proofs.YtgdpgiegiacepaaDoor
