/-
  Layer 23 (device): Write off the sectors; Write at every input. (Written by a small program.)
-/
import Derived.Test.YtgdpgiegiacepaaDoorDevW5
namespace Go.Proofs.YtgdpgiegiacepaaDoor
open Go.RowKit Go.Shelf
attribute [local go_sem] Oper.semAt_some

section
variable {w : World} {d b g sb sc fb fc : Nat} {D : Dev}
set_option maxRecDepth 100000 in
set_option maxHeartbeats 4000000 in
theorem dWrite_neg (h : IsDev w d b g sb sc fb fc D) (_hr : -1 ≤ D.left ∧ D.left ≤ 9223372036854775807) (i : Int) (t : ByteArray) (hi : i < 0) (R : Int) (E : Dev) (HE : ∀ w2 bd bi bt, IsDev w2 d b g sb sc fb fc D → Blk w2 bd 24 #[.pointer (some ⟨d, 0, none⟩)] → Blk w2 bi 3 #[.int .i64 i] → Blk w2 bt 9 #[.string t] →
      Calls Tryd.prog 64 #[.pointer (some ⟨d, 0, none⟩), .int .i64 1, .func (.func 66) #[] #[.pointer (some ⟨bd, 0, none⟩), .pointer (some ⟨bi, 0, none⟩), .pointer (some ⟨bt, 0, none⟩)]] w2 fun e w' => e = .returned (.int .i64 R) ∧ IsDev w' d b g sb sc fb fc E ∧ DFr w2 w' d g sb fb) :
    Calls Tryd.prog 45 #[.pointer (some ⟨d, 0, none⟩), .int .i64 i, .string t] w fun e w' => e = .returned (.int .i64 R) ∧ IsDev w' d b g sb sc fb fc E ∧ DFr w w' d g sb fb := by
  have hs1 : ((w.alloc (.cells #[.pointer (some ⟨d, 0, none⟩)] 24)).alloc (.cells #[.int .i64 i] 3)).heap.size = w.heap.size + 1 + 1 := by simp
  have hs0 : (w.alloc (.cells #[.pointer (some ⟨d, 0, none⟩)] 24)).heap.size = w.heap.size + 1 := by simp
  have q1 : Blk (((w.alloc (.cells #[.pointer (some ⟨d, 0, none⟩)] 24)).alloc (.cells #[.int .i64 i] 3)).alloc (.cells #[.string t] 9)) w.heap.size 24 #[.pointer (some ⟨d, 0, none⟩)] := ((Blk.new w _ _).alloc _).alloc _
  have q2 : Blk (((w.alloc (.cells #[.pointer (some ⟨d, 0, none⟩)] 24)).alloc (.cells #[.int .i64 i] 3)).alloc (.cells #[.string t] 9)) (w.heap.size + 1) 3 #[.int .i64 i] := by rw [← hs0]; exact (Blk.new _ _ _).alloc _
  have q3 : Blk (((w.alloc (.cells #[.pointer (some ⟨d, 0, none⟩)] 24)).alloc (.cells #[.int .i64 i] 3)).alloc (.cells #[.string t] 9)) (w.heap.size + 1 + 1) 9 #[.string t] := by rw [← hs1]; exact Blk.new _ _ _
  have hB : Below w.heap.size w (((w.alloc (.cells #[.pointer (some ⟨d, 0, none⟩)] 24)).alloc (.cells #[.int .i64 i] 3)).alloc (.cells #[.string t] 9)) := (((Below.refl _ w).alloc (Nat.le_refl _) _).alloc (by omega) _).alloc (by omega) _
  have ls := (h.srow.lt sb rfl).2
  have lf := (h.frow.lt fb rfl).2
  have ld := h.blk.lt
  have lg := h.mem.lt.2
  have HH := Lib.hid HE
  have H := Lib.hid h
  clear HE h hs1 hs0
  go_enter Tryd.func45, Tryd.ntmps45
  go_wp2_with fail
  generalize (((w.alloc (.cells #[.pointer (some ⟨d, 0, none⟩)] 24)).alloc (.cells #[.int .i64 i] 3)).alloc (.cells #[.string t] 9)) = W at q1 q2 q3 hB ⊢
  have hD : IsDev W.drew d b g sb sc fb fc D := H.out.below (hB.drew)
  have hBB := Lib.hid hB.drew
  have hst := Lib.hid (HH.out W.drew _ _ _ hD q1.drew q2.drew q3.drew)
  have hKK : Hid (∀ w', DFr W.drew w' d g sb fb → Blk w' w.heap.size 24 #[.pointer (some ⟨d, 0, none⟩)] ∧ Blk w' (w.heap.size + 1) 3 #[.int .i64 i] ∧ Blk w' (w.heap.size + 1 + 1) 9 #[.string t]) := fun w' hF =>
    ⟨(hF.rest _ q1.lt (by omega) (by omega) (by omega) (by omega)).trans q1, (hF.rest _ q2.lt (by omega) (by omega) (by omega) (by omega)).trans q2, (hF.rest _ q3.lt (by omega) (by omega) (by omega) (by omega)).trans q3⟩
  have x1 := q1.cell 0
  have x2 := q2.cell 0
  have x3 := q3.cell 0
  have x4 := hD.blk.cell 4
  have HL := Lib.hid (len_any hD.mem)
  clear q1 q2 q3 hB hD ls lf ld lg _hr
  have d1 : decide (0 ≤ i) = false := decide_eq_false (by omega)
  clear hi
  refine wp_region_held_drew (S := (fun w' => w'.cell? ⟨w.heap.size, 0, none⟩ = some (.pointer (some ⟨d, 0, none⟩)) ∧ w'.cell? ⟨w.heap.size + 1, 0, none⟩ = some (.int .i64 i) ∧ w'.cell? ⟨w.heap.size + 1 + 1, 0, none⟩ = some (.string t) ∧ w'.cell? ⟨d, 4, none⟩ = some (.pointer (some ⟨b, 0, none⟩)))) (by kernel_rfl) ⟨x1, x2, x3, x4⟩ (fun hHeld => ?_)
  refine' wpAnyH_take (i := 0) (v := ?v0) rfl (by kernel_rfl) (by kernel_rfl) (by kernel_rfl) (fun _ _ _ h => h) (Or.inl ⟨by rfl, ?hy0⟩) hHeld ?rest0
  case hy0 =>
    intro w hSw
    try dsimp only at hSw
    go_simp
    all_goals with_reducible rfl
  try simp only [Act.put, List.setIfInBounds_toArray]
  refine' wpAnyH_take (i := 1) (v := ?v1) rfl (by kernel_rfl) (by kernel_rfl) (by kernel_rfl) (fun _ _ _ h => h) (Or.inl ⟨by rfl, ?hy1⟩) hHeld ?rest1
  case hy1 =>
    intro w hSw
    try dsimp only at hSw
    go_simp
    all_goals with_reducible rfl
  try simp only [Act.put]
  refine' wpAnyH_take (i := 2) (v := ?v2) rfl (by kernel_rfl) (by kernel_rfl) (by kernel_rfl) (fun _ _ _ h => h) (Or.inl ⟨by rfl, ?hy2⟩) hHeld ?rest2
  case hy2 =>
    intro w hSw
    try dsimp only at hSw
    go_simp
    all_goals with_reducible rfl
  try simp only [Act.put]
  refine' wpAnyH_take (i := 3) (v := ?v3) rfl (by kernel_rfl) (by kernel_rfl) (by kernel_rfl) (fun _ _ _ h => h) (Or.inl ⟨by rfl, ?hy3⟩) hHeld ?rest3
  case hy3 =>
    intro w hSw
    try dsimp only at hSw
    go_simp
    all_goals with_reducible rfl
  try simp only [Act.put]
  refine wpAnyH_take (i := 4) (v := undef) rfl (by kernel_rfl) (by kernel_rfl) (by kernel_rfl) (fun _ _ _ h => h) (Or.inr ⟨by go_simp, rfl⟩) hHeld ?_
  try simp only [Act.put]
  refine wpAnyH_take (i := 5) (v := undef) rfl (by kernel_rfl) (by kernel_rfl) (by kernel_rfl) (fun _ _ _ h => h) (Or.inr ⟨by go_simp, rfl⟩) hHeld ?_
  try simp only [Act.put]
  refine wpAnyH_take (i := 6) (v := undef) rfl (by kernel_rfl) (by kernel_rfl) (by kernel_rfl) (fun _ _ _ h => h) (Or.inr ⟨by go_simp, rfl⟩) hHeld ?_
  try simp only [Act.put]
  refine wpAnyH_take (i := 7) (v := undef) rfl (by kernel_rfl) (by kernel_rfl) (by kernel_rfl) (fun _ _ _ h => h) (Or.inr ⟨by go_simp, rfl⟩) hHeld ?_
  try simp only [Act.put]
  refine wpAnyH_take (i := 8) (v := undef) rfl (by kernel_rfl) (by kernel_rfl) (by kernel_rfl) (fun _ _ _ h => h) (Or.inr ⟨by go_simp, rfl⟩) hHeld ?_
  try simp only [Act.put]
  refine wpAnyH_take (i := 9) (v := undef) rfl (by kernel_rfl) (by kernel_rfl) (by kernel_rfl) (fun _ _ _ h => h) (Or.inr ⟨by go_simp, rfl⟩) hHeld ?_
  try simp only [Act.put]
  refine wpAnyH_take (i := 10) (v := undef) rfl (by kernel_rfl) (by kernel_rfl) (by kernel_rfl) (fun _ _ _ h => h) (Or.inr ⟨by go_simp, rfl⟩) hHeld ?_
  try simp only [Act.put]
  refine' wpAnyH_take (i := 11) (v := ?v11) rfl (by kernel_rfl) (by kernel_rfl) (by kernel_rfl) (fun _ _ _ h => h) (Or.inl ⟨by rfl, ?hy11⟩) hHeld ?rest11
  case hy11 =>
    intro w hSw
    try dsimp only at hSw
    go_simp
    all_goals with_reducible rfl
  try simp only [Act.put]
  refine' wpAnyH_take (i := 12) (v := ?v12) rfl (by kernel_rfl) (by kernel_rfl) (by kernel_rfl) (fun _ _ _ h => h) (Or.inl ⟨by rfl, ?hy12⟩) hHeld ?rest12
  case hy12 =>
    intro w hSw
    try dsimp only at hSw
    go_simp
    all_goals with_reducible rfl
  try simp only [Act.put]
  refine wpAnyH_take (i := 13) (v := undef) rfl (by kernel_rfl) (by kernel_rfl) (by kernel_rfl) (fun _ _ _ h => h) (Or.inr ⟨by go_simp, rfl⟩) hHeld ?_
  try simp only [Act.put]
  refine wpAnyH_take (i := 14) (v := undef) rfl (by kernel_rfl) (by kernel_rfl) (by kernel_rfl) (fun _ _ _ h => h) (Or.inr ⟨by go_simp, rfl⟩) hHeld ?_
  try simp only [Act.put]
  refine wpAnyH_take (i := 15) (v := undef) rfl (by kernel_rfl) (by kernel_rfl) (by kernel_rfl) (fun _ _ _ h => h) (Or.inr ⟨by go_simp, rfl⟩) hHeld ?_
  try simp only [Act.put]
  refine' wpAnyH_take (i := 16) (v := ?v16) rfl (by kernel_rfl) (by kernel_rfl) (by kernel_rfl) (fun _ _ _ h => h) (Or.inl ⟨by rfl, ?hy16⟩) hHeld ?rest16
  case hy16 =>
    intro w hSw
    try dsimp only at hSw
    go_simp
    all_goals with_reducible rfl
  try simp only [Act.put]
  refine' wpAnyH_take (i := 18) (v := ?v18) rfl (by kernel_rfl) (by kernel_rfl) (by kernel_rfl) (fun _ _ _ h => h) (Or.inl ⟨by rfl, ?hy18⟩) hHeld ?rest18
  case hy18 =>
    intro w hSw
    try dsimp only at hSw
    go_simp
    all_goals with_reducible rfl
  try simp only [Act.put]
  refine wpAnyH_ready (rs := [17]) (by kernel_rfl) (by simp) ?_
  refine AllReadyH.cons rfl (fun K hK => ?_) AllReadyH.nil
  go_simp
  go_at_call 65; refine (valid_any _ false).mono ?_; rintro e w1 ⟨rfl, rfl⟩
  go_wp2_with fail
  refine hK.out _ _ ?_ (fun hHeld => ?_)
  · exact hHeld
  clear hK K
  try simp only [Act.put, List.setIfInBounds_toArray, List.set_cons_zero, List.set_cons_succ]
  refine wpAnyH_ready (rs := [19]) (by kernel_rfl) (by simp) ?_
  refine AllReadyH.cons rfl (fun K hK => ?_) AllReadyH.nil
  go_simp
  go_at_call 64; refine hst.out.mono ?_; rintro e w' ⟨rfl, hE, hF⟩; obtain ⟨j1, j2, j3⟩ := hKK.out _ hF; have y1 := j1.cell 0; have y2 := j2.cell 0; have y3 := j3.cell 0; have y4 := hE.blk.cell 4
  go_wp2_with fail
  refine hK.out _ _ ?_ (fun hHeld => ?_)
  · exact ⟨y1, y2, y3, y4⟩
  clear hK K
  try simp only [Act.put, List.setIfInBounds_toArray, List.set_cons_zero, List.set_cons_succ]
  refine wpAnyH_ready (rs := [20]) (by kernel_rfl) (by simp) ?_
  refine AllReadyH.cons rfl (fun K hK => ?_) AllReadyH.nil
  go_simp
  refine hK.out _ _ ?_ (fun hHeld => ?_)
  · exact hHeld
  clear hK K
  try simp only [Act.put, List.setIfInBounds_toArray, List.set_cons_zero, List.set_cons_succ]
  refine wpAnyH_done (by kernel_rfl) ?_ _
  go_wp2_with fail
  go_ret
  exact ⟨rfl, hE, (DFr.ofBelow hBB.out).trans hF⟩
set_option maxRecDepth 100000 in
set_option maxHeartbeats 4000000 in
theorem dWrite_beyond (h : IsDev w d b g sb sc fb fc D) (_hr : -1 ≤ D.left ∧ D.left ≤ 9223372036854775807) (i : Int) (t : ByteArray) (hi : 0 ≤ i ∧ (D.M.length : Int) ≤ i) (R : Int) (E : Dev) (HE : ∀ w2 bd bi bt, IsDev w2 d b g sb sc fb fc D → Blk w2 bd 24 #[.pointer (some ⟨d, 0, none⟩)] → Blk w2 bi 3 #[.int .i64 i] → Blk w2 bt 9 #[.string t] →
      Calls Tryd.prog 64 #[.pointer (some ⟨d, 0, none⟩), .int .i64 1, .func (.func 66) #[] #[.pointer (some ⟨bd, 0, none⟩), .pointer (some ⟨bi, 0, none⟩), .pointer (some ⟨bt, 0, none⟩)]] w2 fun e w' => e = .returned (.int .i64 R) ∧ IsDev w' d b g sb sc fb fc E ∧ DFr w2 w' d g sb fb) :
    Calls Tryd.prog 45 #[.pointer (some ⟨d, 0, none⟩), .int .i64 i, .string t] w fun e w' => e = .returned (.int .i64 R) ∧ IsDev w' d b g sb sc fb fc E ∧ DFr w w' d g sb fb := by
  have hs1 : ((w.alloc (.cells #[.pointer (some ⟨d, 0, none⟩)] 24)).alloc (.cells #[.int .i64 i] 3)).heap.size = w.heap.size + 1 + 1 := by simp
  have hs0 : (w.alloc (.cells #[.pointer (some ⟨d, 0, none⟩)] 24)).heap.size = w.heap.size + 1 := by simp
  have q1 : Blk (((w.alloc (.cells #[.pointer (some ⟨d, 0, none⟩)] 24)).alloc (.cells #[.int .i64 i] 3)).alloc (.cells #[.string t] 9)) w.heap.size 24 #[.pointer (some ⟨d, 0, none⟩)] := ((Blk.new w _ _).alloc _).alloc _
  have q2 : Blk (((w.alloc (.cells #[.pointer (some ⟨d, 0, none⟩)] 24)).alloc (.cells #[.int .i64 i] 3)).alloc (.cells #[.string t] 9)) (w.heap.size + 1) 3 #[.int .i64 i] := by rw [← hs0]; exact (Blk.new _ _ _).alloc _
  have q3 : Blk (((w.alloc (.cells #[.pointer (some ⟨d, 0, none⟩)] 24)).alloc (.cells #[.int .i64 i] 3)).alloc (.cells #[.string t] 9)) (w.heap.size + 1 + 1) 9 #[.string t] := by rw [← hs1]; exact Blk.new _ _ _
  have hB : Below w.heap.size w (((w.alloc (.cells #[.pointer (some ⟨d, 0, none⟩)] 24)).alloc (.cells #[.int .i64 i] 3)).alloc (.cells #[.string t] 9)) := (((Below.refl _ w).alloc (Nat.le_refl _) _).alloc (by omega) _).alloc (by omega) _
  have ls := (h.srow.lt sb rfl).2
  have lf := (h.frow.lt fb rfl).2
  have ld := h.blk.lt
  have lg := h.mem.lt.2
  have HH := Lib.hid HE
  have H := Lib.hid h
  clear HE h hs1 hs0
  go_enter Tryd.func45, Tryd.ntmps45
  go_wp2_with fail
  generalize (((w.alloc (.cells #[.pointer (some ⟨d, 0, none⟩)] 24)).alloc (.cells #[.int .i64 i] 3)).alloc (.cells #[.string t] 9)) = W at q1 q2 q3 hB ⊢
  have hD : IsDev W.drew d b g sb sc fb fc D := H.out.below (hB.drew)
  have hBB := Lib.hid hB.drew
  have hst := Lib.hid (HH.out W.drew _ _ _ hD q1.drew q2.drew q3.drew)
  have hKK : Hid (∀ w', DFr W.drew w' d g sb fb → Blk w' w.heap.size 24 #[.pointer (some ⟨d, 0, none⟩)] ∧ Blk w' (w.heap.size + 1) 3 #[.int .i64 i] ∧ Blk w' (w.heap.size + 1 + 1) 9 #[.string t]) := fun w' hF =>
    ⟨(hF.rest _ q1.lt (by omega) (by omega) (by omega) (by omega)).trans q1, (hF.rest _ q2.lt (by omega) (by omega) (by omega) (by omega)).trans q2, (hF.rest _ q3.lt (by omega) (by omega) (by omega) (by omega)).trans q3⟩
  have x1 := q1.cell 0
  have x2 := q2.cell 0
  have x3 := q3.cell 0
  have x4 := hD.blk.cell 4
  have HL := Lib.hid (len_any hD.mem)
  clear q1 q2 q3 hB hD ls lf ld lg _hr
  have d1 : decide (0 ≤ i) = true := decide_eq_true hi.1
  have d2 : decide (i < (D.M.length : Int)) = false := decide_eq_false (by omega)
  clear hi
  refine wp_region_held_drew (S := (fun w' => w'.cell? ⟨w.heap.size, 0, none⟩ = some (.pointer (some ⟨d, 0, none⟩)) ∧ w'.cell? ⟨w.heap.size + 1, 0, none⟩ = some (.int .i64 i) ∧ w'.cell? ⟨w.heap.size + 1 + 1, 0, none⟩ = some (.string t) ∧ w'.cell? ⟨d, 4, none⟩ = some (.pointer (some ⟨b, 0, none⟩)))) (by kernel_rfl) ⟨x1, x2, x3, x4⟩ (fun hHeld => ?_)
  refine' wpAnyH_take (i := 0) (v := ?v0) rfl (by kernel_rfl) (by kernel_rfl) (by kernel_rfl) (fun _ _ _ h => h) (Or.inl ⟨by rfl, ?hy0⟩) hHeld ?rest0
  case hy0 =>
    intro w hSw
    try dsimp only at hSw
    go_simp
    all_goals with_reducible rfl
  try simp only [Act.put, List.setIfInBounds_toArray]
  refine' wpAnyH_take (i := 1) (v := ?v1) rfl (by kernel_rfl) (by kernel_rfl) (by kernel_rfl) (fun _ _ _ h => h) (Or.inl ⟨by rfl, ?hy1⟩) hHeld ?rest1
  case hy1 =>
    intro w hSw
    try dsimp only at hSw
    go_simp
    all_goals with_reducible rfl
  try simp only [Act.put]
  refine' wpAnyH_take (i := 2) (v := ?v2) rfl (by kernel_rfl) (by kernel_rfl) (by kernel_rfl) (fun _ _ _ h => h) (Or.inl ⟨by rfl, ?hy2⟩) hHeld ?rest2
  case hy2 =>
    intro w hSw
    try dsimp only at hSw
    go_simp
    all_goals with_reducible rfl
  try simp only [Act.put]
  refine' wpAnyH_take (i := 3) (v := ?v3) rfl (by kernel_rfl) (by kernel_rfl) (by kernel_rfl) (fun _ _ _ h => h) (Or.inl ⟨by rfl, ?hy3⟩) hHeld ?rest3
  case hy3 =>
    intro w hSw
    try dsimp only at hSw
    go_simp
    all_goals with_reducible rfl
  try simp only [Act.put]
  refine' wpAnyH_take (i := 4) (v := ?v4) rfl (by kernel_rfl) (by kernel_rfl) (by kernel_rfl) (fun _ _ _ h => h) (Or.inl ⟨by rfl, ?hy4⟩) hHeld ?rest4
  case hy4 =>
    intro w hSw
    try dsimp only at hSw
    go_simp
    all_goals with_reducible rfl
  try simp only [Act.put]
  refine' wpAnyH_take (i := 5) (v := ?v5) rfl (by kernel_rfl) (by kernel_rfl) (by kernel_rfl) (fun _ _ _ h => h) (Or.inl ⟨by rfl, ?hy5⟩) hHeld ?rest5
  case hy5 =>
    intro w hSw
    try dsimp only at hSw
    go_simp
    all_goals with_reducible rfl
  try simp only [Act.put]
  refine' wpAnyH_take (i := 6) (v := ?v6) rfl (by kernel_rfl) (by kernel_rfl) (by kernel_rfl) (fun _ _ _ h => h) (Or.inl ⟨by rfl, ?hy6⟩) hHeld ?rest6
  case hy6 =>
    intro w hSw
    try dsimp only at hSw
    go_simp
    all_goals with_reducible rfl
  try simp only [Act.put]
  refine' wpAnyH_take (i := 7) (v := ?v7) rfl (by kernel_rfl) (by kernel_rfl) (by kernel_rfl) (fun _ _ _ h => h) (Or.inl ⟨by rfl, ?hy7⟩) hHeld ?rest7
  case hy7 =>
    intro w hSw
    try dsimp only at hSw
    go_simp
    all_goals with_reducible rfl
  try simp only [Act.put]
  refine' wpAnyH_take (i := 8) (v := ?v8) rfl (by kernel_rfl) (by kernel_rfl) (by kernel_rfl) (fun _ _ _ h => h) (Or.inl ⟨by rfl, ?hy8⟩) hHeld ?rest8
  case hy8 =>
    intro w hSw
    try dsimp only at hSw
    go_simp
    all_goals with_reducible rfl
  try simp only [Act.put]
  refine' wpAnyH_take (i := 18) (v := ?v18) rfl (by kernel_rfl) (by kernel_rfl) (by kernel_rfl) (fun _ _ _ h => h) (Or.inl ⟨by rfl, ?hy18⟩) hHeld ?rest18
  case hy18 =>
    intro w hSw
    try dsimp only at hSw
    go_simp
    all_goals with_reducible rfl
  try simp only [Act.put]
  refine wpAnyH_ready (rs := [9]) (by kernel_rfl) (by simp) ?_
  refine AllReadyH.cons rfl (fun K hK => ?_) AllReadyH.nil
  go_simp
  go_at_call 52; refine HL.out.mono ?_; rintro e w1 ⟨rfl, rfl⟩
  go_wp2_with fail
  refine hK.out _ _ ?_ (fun hHeld => ?_)
  · exact hHeld
  clear hK K
  try simp only [Act.put, List.setIfInBounds_toArray, List.set_cons_zero, List.set_cons_succ]
  refine' wpAnyH_take (i := 10) (v := ?v10) rfl (by kernel_rfl) (by kernel_rfl) (by kernel_rfl) (fun _ _ _ h => h) (Or.inl ⟨by rfl, ?hy10⟩) hHeld ?rest10
  case hy10 =>
    intro w hSw
    try dsimp only at hSw
    go_simp
    all_goals with_reducible rfl
  try simp only [Act.put, List.setIfInBounds_toArray]
  refine' wpAnyH_take (i := 11) (v := ?v11) rfl (by kernel_rfl) (by kernel_rfl) (by kernel_rfl) (fun _ _ _ h => h) (Or.inl ⟨by rfl, ?hy11⟩) hHeld ?rest11
  case hy11 =>
    intro w hSw
    try dsimp only at hSw
    go_simp
    all_goals with_reducible rfl
  try simp only [Act.put]
  refine' wpAnyH_take (i := 12) (v := ?v12) rfl (by kernel_rfl) (by kernel_rfl) (by kernel_rfl) (fun _ _ _ h => h) (Or.inl ⟨by rfl, ?hy12⟩) hHeld ?rest12
  case hy12 =>
    intro w hSw
    try dsimp only at hSw
    go_simp
    all_goals with_reducible rfl
  try simp only [Act.put]
  refine wpAnyH_take (i := 13) (v := undef) rfl (by kernel_rfl) (by kernel_rfl) (by kernel_rfl) (fun _ _ _ h => h) (Or.inr ⟨by go_simp, rfl⟩) hHeld ?_
  try simp only [Act.put]
  refine wpAnyH_take (i := 14) (v := undef) rfl (by kernel_rfl) (by kernel_rfl) (by kernel_rfl) (fun _ _ _ h => h) (Or.inr ⟨by go_simp, rfl⟩) hHeld ?_
  try simp only [Act.put]
  refine wpAnyH_take (i := 15) (v := undef) rfl (by kernel_rfl) (by kernel_rfl) (by kernel_rfl) (fun _ _ _ h => h) (Or.inr ⟨by go_simp, rfl⟩) hHeld ?_
  try simp only [Act.put]
  refine' wpAnyH_take (i := 16) (v := ?v16) rfl (by kernel_rfl) (by kernel_rfl) (by kernel_rfl) (fun _ _ _ h => h) (Or.inl ⟨by rfl, ?hy16⟩) hHeld ?rest16
  case hy16 =>
    intro w hSw
    try dsimp only at hSw
    go_simp
    all_goals with_reducible rfl
  try simp only [Act.put]
  refine wpAnyH_ready (rs := [17]) (by kernel_rfl) (by simp) ?_
  refine AllReadyH.cons rfl (fun K hK => ?_) AllReadyH.nil
  go_simp
  go_at_call 65; refine (valid_any _ false).mono ?_; rintro e w1 ⟨rfl, rfl⟩
  go_wp2_with fail
  refine hK.out _ _ ?_ (fun hHeld => ?_)
  · exact hHeld
  clear hK K
  try simp only [Act.put, List.setIfInBounds_toArray, List.set_cons_zero, List.set_cons_succ]
  refine wpAnyH_ready (rs := [19]) (by kernel_rfl) (by simp) ?_
  refine AllReadyH.cons rfl (fun K hK => ?_) AllReadyH.nil
  go_simp
  go_at_call 64; refine hst.out.mono ?_; rintro e w' ⟨rfl, hE, hF⟩; obtain ⟨j1, j2, j3⟩ := hKK.out _ hF; have y1 := j1.cell 0; have y2 := j2.cell 0; have y3 := j3.cell 0; have y4 := hE.blk.cell 4
  go_wp2_with fail
  refine hK.out _ _ ?_ (fun hHeld => ?_)
  · exact ⟨y1, y2, y3, y4⟩
  clear hK K
  try simp only [Act.put, List.setIfInBounds_toArray, List.set_cons_zero, List.set_cons_succ]
  refine wpAnyH_ready (rs := [20]) (by kernel_rfl) (by simp) ?_
  refine AllReadyH.cons rfl (fun K hK => ?_) AllReadyH.nil
  go_simp
  refine hK.out _ _ ?_ (fun hHeld => ?_)
  · exact hHeld
  clear hK K
  try simp only [Act.put, List.setIfInBounds_toArray, List.set_cons_zero, List.set_cons_succ]
  refine wpAnyH_done (by kernel_rfl) ?_ _
  go_wp2_with fail
  go_ret
  exact ⟨rfl, hE, (DFr.ofBelow hBB.out).trans hF⟩
theorem dWrite_any (h : IsDev w d b g sb sc fb fc D) (hr : -1 ≤ D.left ∧ D.left ≤ 9223372036854775807) (i : Int) (t : ByteArray) :
    Calls Tryd.prog 45 #[.pointer (some ⟨d, 0, none⟩), .int .i64 i, .string t] w fun e w' => e = .returned (.int .i64 (D.dstep (chk (isAt D.M i ∧ t.size = 64)) fun D => { D with M := upd (fun s => s.write t) D.M i }).1) ∧
      IsDev w' d b g sb sc fb fc (D.dstep (chk (isAt D.M i ∧ t.size = 64)) fun D => { D with M := upd (fun s => s.write t) D.M i }).2 ∧ DFr w w' d g sb fb := by
  by_cases hi : isAt D.M i
  · by_cases ht : t.size = 64
    · refine dWrite_in h hr i t hi ht _ _ fun w2 bd bi bt h2 k1 k2 k3 => ?_
      have := write_step h2 hr bd bi bt i t k1 k2 k3
      rw [chk_pos (⟨hi, ht⟩ : isAt D.M i ∧ t.size = 64)] at this ⊢
      exact this
    · refine dWrite_size h hr i t hi ht _ _ fun w2 bd bi bt h2 k1 k2 k3 => ?_
      have := write_step h2 hr bd bi bt i t k1 k2 k3
      rw [chk_neg (show ¬ (isAt D.M i ∧ t.size = 64) from fun h => ht h.2)] at this ⊢
      exact this
  · rcases not_isAt hi with h0 | h0
    · refine dWrite_neg h hr i t h0 _ _ fun w2 bd bi bt h2 k1 k2 k3 => ?_
      have := write_step h2 hr bd bi bt i t k1 k2 k3
      rw [chk_neg (show ¬ (isAt D.M i ∧ t.size = 64) from fun h => hi h.1)] at this ⊢
      exact this
    · by_cases h1 : i < 0
      · refine dWrite_neg h hr i t h1 _ _ fun w2 bd bi bt h2 k1 k2 k3 => ?_
        have := write_step h2 hr bd bi bt i t k1 k2 k3
        rw [chk_neg (show ¬ (isAt D.M i ∧ t.size = 64) from fun h => hi h.1)] at this ⊢
        exact this
      · refine dWrite_beyond h hr i t ⟨by omega, h0⟩ _ _ fun w2 bd bi bt h2 k1 k2 k3 => ?_
        have := write_step h2 hr bd bi bt i t k1 k2 k3
        rw [chk_neg (show ¬ (isAt D.M i ∧ t.size = 64) from fun h => hi h.1)] at this ⊢
        exact this
end
end Go.Proofs.YtgdpgiegiacepaaDoor
