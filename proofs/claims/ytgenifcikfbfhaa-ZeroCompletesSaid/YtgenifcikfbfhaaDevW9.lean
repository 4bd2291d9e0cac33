/-
  Layer 23 (device): Burn. (Written by a small program.)
-/
import Derived.Test.YtgenifcikfbfhaaDevW7
namespace Go.Proofs.Ytgenifcikfbfhaa
open Go.RowKit Go.Shelf
attribute [local go_sem] Oper.semAt_some

section
variable {w : World} {d b g sb sc fb fc : Nat} {D : Dev}
set_option maxRecDepth 100000 in
set_option maxHeartbeats 1600000 in
theorem dBurn_in (h : IsDev w d b g sb sc fb fc D) (i : Int) (hi : inS D.fuses i) (R : Int) (E : Dev) (hlen : E.fuses.length = D.fuses.length) (HE : ∀ w2 bd bi, IsDev w2 d b g sb sc fb fc D → Blk w2 bd 26 #[.pointer (some ⟨d, 0, none⟩)] → Blk w2 bi 3 #[.int .i64 i] →
      Calls Try.prog 39 #[.pointer (some ⟨d, 0, none⟩), .int .i64 0, .func (.func 41) #[] #[.pointer (some ⟨bd, 0, none⟩), .pointer (some ⟨bi, 0, none⟩)]] w2 fun e w' => e = .returned (.int .i64 R) ∧ IsDev w' d b g sb sc fb fc E ∧ DFr w2 w' d g sb fb) :
    Calls Try.prog 19 #[.pointer (some ⟨d, 0, none⟩), .int .i64 i] w fun e w' => e = .returned (.int .i64 R) ∧ IsDev w' d b g sb sc fb fc E ∧ DFr w w' d g sb fb := by
  have hs1 : ((w.alloc (.cells #[.pointer (some ⟨d, 0, none⟩)] 26)).alloc (.cells #[.int .i64 i] 3)).heap.size = w.heap.size + 1 + 1 := by simp
  have hs0 : (w.alloc (.cells #[.pointer (some ⟨d, 0, none⟩)] 26)).heap.size = w.heap.size + 1 := by simp
  have q1 : Blk ((w.alloc (.cells #[.pointer (some ⟨d, 0, none⟩)] 26)).alloc (.cells #[.int .i64 i] 3)) w.heap.size 26 #[.pointer (some ⟨d, 0, none⟩)] := (Blk.new w _ _).alloc _
  have q2 : Blk ((w.alloc (.cells #[.pointer (some ⟨d, 0, none⟩)] 26)).alloc (.cells #[.int .i64 i] 3)) (w.heap.size + 1) 3 #[.int .i64 i] := by rw [← hs0]; exact Blk.new _ _ _
  have hB : Below w.heap.size w ((w.alloc (.cells #[.pointer (some ⟨d, 0, none⟩)] 26)).alloc (.cells #[.int .i64 i] 3)) := ((Below.refl _ w).alloc (Nat.le_refl _) _).alloc (by omega) _
  have ls := (h.srow.lt sb rfl).2
  have lf := (h.frow.lt fb rfl).2
  have ld := h.blk.lt
  have lg := h.mem.lt.2
  have HH := Lib.hid HE
  have H := Lib.hid h
  clear HE h hs1 hs0
  go_enter Try.func19, Try.ntmps19
  go_wp2_with fail
  generalize ((w.alloc (.cells #[.pointer (some ⟨d, 0, none⟩)] 26)).alloc (.cells #[.int .i64 i] 3)) = W at q1 q2 hB ⊢
  have hD : IsDev W.drew d b g sb sc fb fc D := H.out.below (hB.drew)
  have hBB := Lib.hid hB.drew
  have hst := Lib.hid (HH.out W.drew _ _ hD q1.drew q2.drew)
  have hKK : Hid (∀ w', DFr W.drew w' d g sb fb → Blk w' w.heap.size 26 #[.pointer (some ⟨d, 0, none⟩)] ∧ Blk w' (w.heap.size + 1) 3 #[.int .i64 i]) := fun w' hF =>
    ⟨(hF.rest _ q1.lt (by omega) (by omega) (by omega) (by omega)).trans q1, (hF.rest _ q2.lt (by omega) (by omega) (by omega) (by omega)).trans q2⟩
  have x1 := q1.cell 0
  have x2 := q2.cell 0

  have x4 := hD.blk.cell 1
  clear q1 q2 hB hD ls lf ld lg
  have d1 : decide (0 ≤ i) = true := decide_eq_true hi.1
  have d2 : decide (i < (D.fuses.length : Int)) = true := decide_eq_true hi.2
  clear hi
  refine wp_region_held_drew (S := (fun w' => w'.cell? ⟨w.heap.size, 0, none⟩ = some (.pointer (some ⟨d, 0, none⟩)) ∧ w'.cell? ⟨w.heap.size + 1, 0, none⟩ = some (.int .i64 i) ∧ w'.cell? ⟨d, 1, none⟩ = some (.slice (some ⟨fb, 0, none⟩) D.fuses.length fc))) (by kernel_rfl) ⟨x1, x2, x4⟩ (fun hHeld => ?_)
  refine' wpAnyH_take (i := 0) (v := ?v0) rfl (by kernel_rfl) (by kernel_rfl) (by kernel_rfl) (fun _ _ _ h => h) (Or.inl ⟨by go_simp, ?hy0⟩) hHeld ?rest0
  case hy0 =>
    intro w hSw
    try dsimp only at hSw
    go_simp
    all_goals with_reducible rfl
  try simp only [Act.put, List.setIfInBounds_toArray]
  refine' wpAnyH_take (i := 1) (v := ?v1) rfl (by kernel_rfl) (by kernel_rfl) (by kernel_rfl) (fun _ _ _ h => h) (Or.inl ⟨by go_simp, ?hy1⟩) hHeld ?rest1
  case hy1 =>
    intro w hSw
    try dsimp only at hSw
    go_simp
    all_goals with_reducible rfl
  try simp only [Act.put]
  refine' wpAnyH_take (i := 2) (v := ?v2) rfl (by kernel_rfl) (by kernel_rfl) (by kernel_rfl) (fun _ _ _ h => h) (Or.inl ⟨by go_simp, ?hy2⟩) hHeld ?rest2
  case hy2 =>
    intro w hSw
    try dsimp only at hSw
    go_simp
    all_goals with_reducible rfl
  try simp only [Act.put]
  refine' wpAnyH_take (i := 3) (v := ?v3) rfl (by kernel_rfl) (by kernel_rfl) (by kernel_rfl) (fun _ _ _ h => h) (Or.inl ⟨by go_simp, ?hy3⟩) hHeld ?rest3
  case hy3 =>
    intro w hSw
    try dsimp only at hSw
    go_simp
    all_goals with_reducible rfl
  try simp only [Act.put]
  refine' wpAnyH_take (i := 4) (v := ?v4) rfl (by kernel_rfl) (by kernel_rfl) (by kernel_rfl) (fun _ _ _ h => h) (Or.inl ⟨by go_simp, ?hy4⟩) hHeld ?rest4
  case hy4 =>
    intro w hSw
    try dsimp only at hSw
    go_simp
    all_goals with_reducible rfl
  try simp only [Act.put]
  refine' wpAnyH_take (i := 5) (v := ?v5) rfl (by kernel_rfl) (by kernel_rfl) (by kernel_rfl) (fun _ _ _ h => h) (Or.inl ⟨by go_simp, ?hy5⟩) hHeld ?rest5
  case hy5 =>
    intro w hSw
    try dsimp only at hSw
    go_simp
    all_goals with_reducible rfl
  try simp only [Act.put]
  refine' wpAnyH_take (i := 6) (v := ?v6) rfl (by kernel_rfl) (by kernel_rfl) (by kernel_rfl) (fun _ _ _ h => h) (Or.inl ⟨by go_simp, ?hy6⟩) hHeld ?rest6
  case hy6 =>
    intro w hSw
    try dsimp only at hSw
    go_simp
    all_goals with_reducible rfl
  try simp only [Act.put]
  refine' wpAnyH_take (i := 7) (v := ?v7) rfl (by kernel_rfl) (by kernel_rfl) (by kernel_rfl) (fun _ _ _ h => h) (Or.inl ⟨by go_simp, ?hy7⟩) hHeld ?rest7
  case hy7 =>
    intro w hSw
    try dsimp only at hSw
    go_simp
    all_goals with_reducible rfl
  try simp only [Act.put]
  refine' wpAnyH_take (i := 8) (v := ?v8) rfl (by kernel_rfl) (by kernel_rfl) (by kernel_rfl) (fun _ _ _ h => h) (Or.inl ⟨by go_simp, ?hy8⟩) hHeld ?rest8
  case hy8 =>
    intro w hSw
    try dsimp only at hSw
    go_simp
    all_goals with_reducible rfl
  try simp only [Act.put]
  refine' wpAnyH_take (i := 9) (v := ?v9) rfl (by kernel_rfl) (by kernel_rfl) (by kernel_rfl) (fun _ _ _ h => h) (Or.inl ⟨by go_simp, ?hy9⟩) hHeld ?rest9
  case hy9 =>
    intro w hSw
    try dsimp only at hSw
    go_simp
    all_goals with_reducible rfl
  try simp only [Act.put]
  refine' wpAnyH_take (i := 10) (v := ?v10) rfl (by kernel_rfl) (by kernel_rfl) (by kernel_rfl) (fun _ _ _ h => h) (Or.inl ⟨by go_simp, ?hy10⟩) hHeld ?rest10
  case hy10 =>
    intro w hSw
    try dsimp only at hSw
    go_simp
    all_goals with_reducible rfl
  try simp only [Act.put]
  refine' wpAnyH_take (i := 11) (v := ?v11) rfl (by kernel_rfl) (by kernel_rfl) (by kernel_rfl) (fun _ _ _ h => h) (Or.inl ⟨by go_simp, ?hy11⟩) hHeld ?rest11
  case hy11 =>
    intro w hSw
    try dsimp only at hSw
    go_simp
    all_goals with_reducible rfl
  try simp only [Act.put]
  refine' wpAnyH_take (i := 12) (v := ?v12) rfl (by kernel_rfl) (by kernel_rfl) (by kernel_rfl) (fun _ _ _ h => h) (Or.inl ⟨by go_simp, ?hy12⟩) hHeld ?rest12
  case hy12 =>
    intro w hSw
    try dsimp only at hSw
    go_simp
    all_goals with_reducible rfl
  try simp only [Act.put]
  refine' wpAnyH_take (i := 14) (v := ?v14) rfl (by kernel_rfl) (by kernel_rfl) (by kernel_rfl) (fun _ _ _ h => h) (Or.inl ⟨by go_simp, ?hy14⟩) hHeld ?rest14
  case hy14 =>
    intro w hSw
    try dsimp only at hSw
    go_simp
    all_goals with_reducible rfl
  try simp only [Act.put]
  refine wpAnyH_ready (rs := [13]) (by kernel_rfl) (by simp) ?_
  refine AllReadyH.cons rfl (fun K hK => ?_) AllReadyH.nil
  go_simp
  go_at_call 40; refine (valid_any _ true).mono ?_; rintro e w1 ⟨rfl, rfl⟩
  go_wp2_with fail
  refine hK.out _ _ ?_ (fun hHeld => ?_)
  · exact hHeld
  clear hK K
  try simp only [Act.put, List.setIfInBounds_toArray, List.set_cons_zero, List.set_cons_succ]
  refine wpAnyH_ready (rs := [15]) (by kernel_rfl) (by simp) ?_
  refine AllReadyH.cons rfl (fun K hK => ?_) AllReadyH.nil
  go_simp
  go_at_call 39; refine hst.out.mono ?_; rintro e w' ⟨rfl, hE, hF⟩; obtain ⟨j1, j2⟩ := hKK.out _ hF; have y1 := j1.cell 0; have y2 := j2.cell 0; have y4 := hE.blk.cell 1; rw [hlen] at y4
  go_wp2_with fail
  refine hK.out _ _ ?_ (fun hHeld => ?_)
  · exact ⟨y1, y2, y4⟩
  clear hK K
  try simp only [Act.put, List.setIfInBounds_toArray, List.set_cons_zero, List.set_cons_succ]
  refine wpAnyH_ready (rs := [16]) (by kernel_rfl) (by simp) ?_
  refine AllReadyH.cons rfl (fun K hK => ?_) AllReadyH.nil
  go_simp
  refine hK.out _ _ ?_ (fun hHeld => ?_)
  · exact hHeld
  clear hK K
  try simp only [Act.put, List.setIfInBounds_toArray, List.set_cons_zero, List.set_cons_succ]
  refine wpAnyH_done (by kernel_rfl) ?_ _
  go_wp2_with fail
  go_ret
  exact ⟨rfl, hE, (DFr.ofBelow hBB.out).trans hF⟩
set_option maxRecDepth 100000 in
set_option maxHeartbeats 1600000 in
theorem dBurn_neg (h : IsDev w d b g sb sc fb fc D) (i : Int) (hi : i < 0) (R : Int) (E : Dev) (hlen : E.fuses.length = D.fuses.length) (HE : ∀ w2 bd bi, IsDev w2 d b g sb sc fb fc D → Blk w2 bd 26 #[.pointer (some ⟨d, 0, none⟩)] → Blk w2 bi 3 #[.int .i64 i] →
      Calls Try.prog 39 #[.pointer (some ⟨d, 0, none⟩), .int .i64 1, .func (.func 41) #[] #[.pointer (some ⟨bd, 0, none⟩), .pointer (some ⟨bi, 0, none⟩)]] w2 fun e w' => e = .returned (.int .i64 R) ∧ IsDev w' d b g sb sc fb fc E ∧ DFr w2 w' d g sb fb) :
    Calls Try.prog 19 #[.pointer (some ⟨d, 0, none⟩), .int .i64 i] w fun e w' => e = .returned (.int .i64 R) ∧ IsDev w' d b g sb sc fb fc E ∧ DFr w w' d g sb fb := by
  have hs1 : ((w.alloc (.cells #[.pointer (some ⟨d, 0, none⟩)] 26)).alloc (.cells #[.int .i64 i] 3)).heap.size = w.heap.size + 1 + 1 := by simp
  have hs0 : (w.alloc (.cells #[.pointer (some ⟨d, 0, none⟩)] 26)).heap.size = w.heap.size + 1 := by simp
  have q1 : Blk ((w.alloc (.cells #[.pointer (some ⟨d, 0, none⟩)] 26)).alloc (.cells #[.int .i64 i] 3)) w.heap.size 26 #[.pointer (some ⟨d, 0, none⟩)] := (Blk.new w _ _).alloc _
  have q2 : Blk ((w.alloc (.cells #[.pointer (some ⟨d, 0, none⟩)] 26)).alloc (.cells #[.int .i64 i] 3)) (w.heap.size + 1) 3 #[.int .i64 i] := by rw [← hs0]; exact Blk.new _ _ _
  have hB : Below w.heap.size w ((w.alloc (.cells #[.pointer (some ⟨d, 0, none⟩)] 26)).alloc (.cells #[.int .i64 i] 3)) := ((Below.refl _ w).alloc (Nat.le_refl _) _).alloc (by omega) _
  have ls := (h.srow.lt sb rfl).2
  have lf := (h.frow.lt fb rfl).2
  have ld := h.blk.lt
  have lg := h.mem.lt.2
  have HH := Lib.hid HE
  have H := Lib.hid h
  clear HE h hs1 hs0
  go_enter Try.func19, Try.ntmps19
  go_wp2_with fail
  generalize ((w.alloc (.cells #[.pointer (some ⟨d, 0, none⟩)] 26)).alloc (.cells #[.int .i64 i] 3)) = W at q1 q2 hB ⊢
  have hD : IsDev W.drew d b g sb sc fb fc D := H.out.below (hB.drew)
  have hBB := Lib.hid hB.drew
  have hst := Lib.hid (HH.out W.drew _ _ hD q1.drew q2.drew)
  have hKK : Hid (∀ w', DFr W.drew w' d g sb fb → Blk w' w.heap.size 26 #[.pointer (some ⟨d, 0, none⟩)] ∧ Blk w' (w.heap.size + 1) 3 #[.int .i64 i]) := fun w' hF =>
    ⟨(hF.rest _ q1.lt (by omega) (by omega) (by omega) (by omega)).trans q1, (hF.rest _ q2.lt (by omega) (by omega) (by omega) (by omega)).trans q2⟩
  have x1 := q1.cell 0
  have x2 := q2.cell 0

  have x4 := hD.blk.cell 1
  clear q1 q2 hB hD ls lf ld lg
  have d1 : decide (0 ≤ i) = false := decide_eq_false (by omega)
  clear hi
  refine wp_region_held_drew (S := (fun w' => w'.cell? ⟨w.heap.size, 0, none⟩ = some (.pointer (some ⟨d, 0, none⟩)) ∧ w'.cell? ⟨w.heap.size + 1, 0, none⟩ = some (.int .i64 i) ∧ w'.cell? ⟨d, 1, none⟩ = some (.slice (some ⟨fb, 0, none⟩) D.fuses.length fc))) (by kernel_rfl) ⟨x1, x2, x4⟩ (fun hHeld => ?_)
  refine' wpAnyH_take (i := 0) (v := ?v0) rfl (by kernel_rfl) (by kernel_rfl) (by kernel_rfl) (fun _ _ _ h => h) (Or.inl ⟨by go_simp, ?hy0⟩) hHeld ?rest0
  case hy0 =>
    intro w hSw
    try dsimp only at hSw
    go_simp
    all_goals with_reducible rfl
  try simp only [Act.put, List.setIfInBounds_toArray]
  refine' wpAnyH_take (i := 1) (v := ?v1) rfl (by kernel_rfl) (by kernel_rfl) (by kernel_rfl) (fun _ _ _ h => h) (Or.inl ⟨by go_simp, ?hy1⟩) hHeld ?rest1
  case hy1 =>
    intro w hSw
    try dsimp only at hSw
    go_simp
    all_goals with_reducible rfl
  try simp only [Act.put]
  refine' wpAnyH_take (i := 2) (v := ?v2) rfl (by kernel_rfl) (by kernel_rfl) (by kernel_rfl) (fun _ _ _ h => h) (Or.inl ⟨by go_simp, ?hy2⟩) hHeld ?rest2
  case hy2 =>
    intro w hSw
    try dsimp only at hSw
    go_simp
    all_goals with_reducible rfl
  try simp only [Act.put]
  refine' wpAnyH_take (i := 3) (v := ?v3) rfl (by kernel_rfl) (by kernel_rfl) (by kernel_rfl) (fun _ _ _ h => h) (Or.inl ⟨by go_simp, ?hy3⟩) hHeld ?rest3
  case hy3 =>
    intro w hSw
    try dsimp only at hSw
    go_simp
    all_goals with_reducible rfl
  try simp only [Act.put]
  refine wpAnyH_take (i := 4) (v := undef) rfl (by kernel_rfl) (by kernel_rfl) (by kernel_rfl) (fun _ _ _ h => h) (Or.inr ⟨by go_simp, rfl⟩) hHeld ?_
  try simp only [Act.put]
  refine wpAnyH_take (i := 5) (v := undef) rfl (by kernel_rfl) (by kernel_rfl) (by kernel_rfl) (fun _ _ _ h => h) (Or.inr ⟨by go_simp, rfl⟩) hHeld ?_
  try simp only [Act.put]
  refine wpAnyH_take (i := 6) (v := undef) rfl (by kernel_rfl) (by kernel_rfl) (by kernel_rfl) (fun _ _ _ h => h) (Or.inr ⟨by go_simp, rfl⟩) hHeld ?_
  try simp only [Act.put]
  refine wpAnyH_take (i := 7) (v := undef) rfl (by kernel_rfl) (by kernel_rfl) (by kernel_rfl) (fun _ _ _ h => h) (Or.inr ⟨by go_simp, rfl⟩) hHeld ?_
  try simp only [Act.put]
  refine wpAnyH_take (i := 8) (v := undef) rfl (by kernel_rfl) (by kernel_rfl) (by kernel_rfl) (fun _ _ _ h => h) (Or.inr ⟨by go_simp, rfl⟩) hHeld ?_
  try simp only [Act.put]
  refine wpAnyH_take (i := 9) (v := undef) rfl (by kernel_rfl) (by kernel_rfl) (by kernel_rfl) (fun _ _ _ h => h) (Or.inr ⟨by go_simp, rfl⟩) hHeld ?_
  try simp only [Act.put]
  refine wpAnyH_take (i := 10) (v := undef) rfl (by kernel_rfl) (by kernel_rfl) (by kernel_rfl) (fun _ _ _ h => h) (Or.inr ⟨by go_simp, rfl⟩) hHeld ?_
  try simp only [Act.put]
  refine wpAnyH_take (i := 11) (v := undef) rfl (by kernel_rfl) (by kernel_rfl) (by kernel_rfl) (fun _ _ _ h => h) (Or.inr ⟨by go_simp, rfl⟩) hHeld ?_
  try simp only [Act.put]
  refine' wpAnyH_take (i := 12) (v := ?v12) rfl (by kernel_rfl) (by kernel_rfl) (by kernel_rfl) (fun _ _ _ h => h) (Or.inl ⟨by go_simp, ?hy12⟩) hHeld ?rest12
  case hy12 =>
    intro w hSw
    try dsimp only at hSw
    go_simp
    all_goals with_reducible rfl
  try simp only [Act.put]
  refine' wpAnyH_take (i := 14) (v := ?v14) rfl (by kernel_rfl) (by kernel_rfl) (by kernel_rfl) (fun _ _ _ h => h) (Or.inl ⟨by go_simp, ?hy14⟩) hHeld ?rest14
  case hy14 =>
    intro w hSw
    try dsimp only at hSw
    go_simp
    all_goals with_reducible rfl
  try simp only [Act.put]
  refine wpAnyH_ready (rs := [13]) (by kernel_rfl) (by simp) ?_
  refine AllReadyH.cons rfl (fun K hK => ?_) AllReadyH.nil
  go_simp
  go_at_call 40; refine (valid_any _ false).mono ?_; rintro e w1 ⟨rfl, rfl⟩
  go_wp2_with fail
  refine hK.out _ _ ?_ (fun hHeld => ?_)
  · exact hHeld
  clear hK K
  try simp only [Act.put, List.setIfInBounds_toArray, List.set_cons_zero, List.set_cons_succ]
  refine wpAnyH_ready (rs := [15]) (by kernel_rfl) (by simp) ?_
  refine AllReadyH.cons rfl (fun K hK => ?_) AllReadyH.nil
  go_simp
  go_at_call 39; refine hst.out.mono ?_; rintro e w' ⟨rfl, hE, hF⟩; obtain ⟨j1, j2⟩ := hKK.out _ hF; have y1 := j1.cell 0; have y2 := j2.cell 0; have y4 := hE.blk.cell 1; rw [hlen] at y4
  go_wp2_with fail
  refine hK.out _ _ ?_ (fun hHeld => ?_)
  · exact ⟨y1, y2, y4⟩
  clear hK K
  try simp only [Act.put, List.setIfInBounds_toArray, List.set_cons_zero, List.set_cons_succ]
  refine wpAnyH_ready (rs := [16]) (by kernel_rfl) (by simp) ?_
  refine AllReadyH.cons rfl (fun K hK => ?_) AllReadyH.nil
  go_simp
  refine hK.out _ _ ?_ (fun hHeld => ?_)
  · exact hHeld
  clear hK K
  try simp only [Act.put, List.setIfInBounds_toArray, List.set_cons_zero, List.set_cons_succ]
  refine wpAnyH_done (by kernel_rfl) ?_ _
  go_wp2_with fail
  go_ret
  exact ⟨rfl, hE, (DFr.ofBelow hBB.out).trans hF⟩
set_option maxRecDepth 100000 in
set_option maxHeartbeats 1600000 in
theorem dBurn_beyond (h : IsDev w d b g sb sc fb fc D) (i : Int) (hi : 0 ≤ i ∧ (D.fuses.length : Int) ≤ i) (R : Int) (E : Dev) (hlen : E.fuses.length = D.fuses.length) (HE : ∀ w2 bd bi, IsDev w2 d b g sb sc fb fc D → Blk w2 bd 26 #[.pointer (some ⟨d, 0, none⟩)] → Blk w2 bi 3 #[.int .i64 i] →
      Calls Try.prog 39 #[.pointer (some ⟨d, 0, none⟩), .int .i64 1, .func (.func 41) #[] #[.pointer (some ⟨bd, 0, none⟩), .pointer (some ⟨bi, 0, none⟩)]] w2 fun e w' => e = .returned (.int .i64 R) ∧ IsDev w' d b g sb sc fb fc E ∧ DFr w2 w' d g sb fb) :
    Calls Try.prog 19 #[.pointer (some ⟨d, 0, none⟩), .int .i64 i] w fun e w' => e = .returned (.int .i64 R) ∧ IsDev w' d b g sb sc fb fc E ∧ DFr w w' d g sb fb := by
  have hs1 : ((w.alloc (.cells #[.pointer (some ⟨d, 0, none⟩)] 26)).alloc (.cells #[.int .i64 i] 3)).heap.size = w.heap.size + 1 + 1 := by simp
  have hs0 : (w.alloc (.cells #[.pointer (some ⟨d, 0, none⟩)] 26)).heap.size = w.heap.size + 1 := by simp
  have q1 : Blk ((w.alloc (.cells #[.pointer (some ⟨d, 0, none⟩)] 26)).alloc (.cells #[.int .i64 i] 3)) w.heap.size 26 #[.pointer (some ⟨d, 0, none⟩)] := (Blk.new w _ _).alloc _
  have q2 : Blk ((w.alloc (.cells #[.pointer (some ⟨d, 0, none⟩)] 26)).alloc (.cells #[.int .i64 i] 3)) (w.heap.size + 1) 3 #[.int .i64 i] := by rw [← hs0]; exact Blk.new _ _ _
  have hB : Below w.heap.size w ((w.alloc (.cells #[.pointer (some ⟨d, 0, none⟩)] 26)).alloc (.cells #[.int .i64 i] 3)) := ((Below.refl _ w).alloc (Nat.le_refl _) _).alloc (by omega) _
  have ls := (h.srow.lt sb rfl).2
  have lf := (h.frow.lt fb rfl).2
  have ld := h.blk.lt
  have lg := h.mem.lt.2
  have HH := Lib.hid HE
  have H := Lib.hid h
  clear HE h hs1 hs0
  go_enter Try.func19, Try.ntmps19
  go_wp2_with fail
  generalize ((w.alloc (.cells #[.pointer (some ⟨d, 0, none⟩)] 26)).alloc (.cells #[.int .i64 i] 3)) = W at q1 q2 hB ⊢
  have hD : IsDev W.drew d b g sb sc fb fc D := H.out.below (hB.drew)
  have hBB := Lib.hid hB.drew
  have hst := Lib.hid (HH.out W.drew _ _ hD q1.drew q2.drew)
  have hKK : Hid (∀ w', DFr W.drew w' d g sb fb → Blk w' w.heap.size 26 #[.pointer (some ⟨d, 0, none⟩)] ∧ Blk w' (w.heap.size + 1) 3 #[.int .i64 i]) := fun w' hF =>
    ⟨(hF.rest _ q1.lt (by omega) (by omega) (by omega) (by omega)).trans q1, (hF.rest _ q2.lt (by omega) (by omega) (by omega) (by omega)).trans q2⟩
  have x1 := q1.cell 0
  have x2 := q2.cell 0

  have x4 := hD.blk.cell 1
  clear q1 q2 hB hD ls lf ld lg
  have d1 : decide (0 ≤ i) = true := decide_eq_true hi.1
  have d2 : decide (i < (D.fuses.length : Int)) = false := decide_eq_false (by omega)
  clear hi
  refine wp_region_held_drew (S := (fun w' => w'.cell? ⟨w.heap.size, 0, none⟩ = some (.pointer (some ⟨d, 0, none⟩)) ∧ w'.cell? ⟨w.heap.size + 1, 0, none⟩ = some (.int .i64 i) ∧ w'.cell? ⟨d, 1, none⟩ = some (.slice (some ⟨fb, 0, none⟩) D.fuses.length fc))) (by kernel_rfl) ⟨x1, x2, x4⟩ (fun hHeld => ?_)
  refine' wpAnyH_take (i := 0) (v := ?v0) rfl (by kernel_rfl) (by kernel_rfl) (by kernel_rfl) (fun _ _ _ h => h) (Or.inl ⟨by go_simp, ?hy0⟩) hHeld ?rest0
  case hy0 =>
    intro w hSw
    try dsimp only at hSw
    go_simp
    all_goals with_reducible rfl
  try simp only [Act.put, List.setIfInBounds_toArray]
  refine' wpAnyH_take (i := 1) (v := ?v1) rfl (by kernel_rfl) (by kernel_rfl) (by kernel_rfl) (fun _ _ _ h => h) (Or.inl ⟨by go_simp, ?hy1⟩) hHeld ?rest1
  case hy1 =>
    intro w hSw
    try dsimp only at hSw
    go_simp
    all_goals with_reducible rfl
  try simp only [Act.put]
  refine' wpAnyH_take (i := 2) (v := ?v2) rfl (by kernel_rfl) (by kernel_rfl) (by kernel_rfl) (fun _ _ _ h => h) (Or.inl ⟨by go_simp, ?hy2⟩) hHeld ?rest2
  case hy2 =>
    intro w hSw
    try dsimp only at hSw
    go_simp
    all_goals with_reducible rfl
  try simp only [Act.put]
  refine' wpAnyH_take (i := 3) (v := ?v3) rfl (by kernel_rfl) (by kernel_rfl) (by kernel_rfl) (fun _ _ _ h => h) (Or.inl ⟨by go_simp, ?hy3⟩) hHeld ?rest3
  case hy3 =>
    intro w hSw
    try dsimp only at hSw
    go_simp
    all_goals with_reducible rfl
  try simp only [Act.put]
  refine' wpAnyH_take (i := 4) (v := ?v4) rfl (by kernel_rfl) (by kernel_rfl) (by kernel_rfl) (fun _ _ _ h => h) (Or.inl ⟨by go_simp, ?hy4⟩) hHeld ?rest4
  case hy4 =>
    intro w hSw
    try dsimp only at hSw
    go_simp
    all_goals with_reducible rfl
  try simp only [Act.put]
  refine' wpAnyH_take (i := 5) (v := ?v5) rfl (by kernel_rfl) (by kernel_rfl) (by kernel_rfl) (fun _ _ _ h => h) (Or.inl ⟨by go_simp, ?hy5⟩) hHeld ?rest5
  case hy5 =>
    intro w hSw
    try dsimp only at hSw
    go_simp
    all_goals with_reducible rfl
  try simp only [Act.put]
  refine' wpAnyH_take (i := 6) (v := ?v6) rfl (by kernel_rfl) (by kernel_rfl) (by kernel_rfl) (fun _ _ _ h => h) (Or.inl ⟨by go_simp, ?hy6⟩) hHeld ?rest6
  case hy6 =>
    intro w hSw
    try dsimp only at hSw
    go_simp
    all_goals with_reducible rfl
  try simp only [Act.put]
  refine' wpAnyH_take (i := 7) (v := ?v7) rfl (by kernel_rfl) (by kernel_rfl) (by kernel_rfl) (fun _ _ _ h => h) (Or.inl ⟨by go_simp, ?hy7⟩) hHeld ?rest7
  case hy7 =>
    intro w hSw
    try dsimp only at hSw
    go_simp
    all_goals with_reducible rfl
  try simp only [Act.put]
  refine' wpAnyH_take (i := 8) (v := ?v8) rfl (by kernel_rfl) (by kernel_rfl) (by kernel_rfl) (fun _ _ _ h => h) (Or.inl ⟨by go_simp, ?hy8⟩) hHeld ?rest8
  case hy8 =>
    intro w hSw
    try dsimp only at hSw
    go_simp
    all_goals with_reducible rfl
  try simp only [Act.put]
  refine' wpAnyH_take (i := 9) (v := ?v9) rfl (by kernel_rfl) (by kernel_rfl) (by kernel_rfl) (fun _ _ _ h => h) (Or.inl ⟨by go_simp, ?hy9⟩) hHeld ?rest9
  case hy9 =>
    intro w hSw
    try dsimp only at hSw
    go_simp
    all_goals with_reducible rfl
  try simp only [Act.put]
  refine' wpAnyH_take (i := 10) (v := ?v10) rfl (by kernel_rfl) (by kernel_rfl) (by kernel_rfl) (fun _ _ _ h => h) (Or.inl ⟨by go_simp, ?hy10⟩) hHeld ?rest10
  case hy10 =>
    intro w hSw
    try dsimp only at hSw
    go_simp
    all_goals with_reducible rfl
  try simp only [Act.put]
  refine' wpAnyH_take (i := 11) (v := ?v11) rfl (by kernel_rfl) (by kernel_rfl) (by kernel_rfl) (fun _ _ _ h => h) (Or.inl ⟨by go_simp, ?hy11⟩) hHeld ?rest11
  case hy11 =>
    intro w hSw
    try dsimp only at hSw
    go_simp
    all_goals with_reducible rfl
  try simp only [Act.put]
  refine' wpAnyH_take (i := 12) (v := ?v12) rfl (by kernel_rfl) (by kernel_rfl) (by kernel_rfl) (fun _ _ _ h => h) (Or.inl ⟨by go_simp, ?hy12⟩) hHeld ?rest12
  case hy12 =>
    intro w hSw
    try dsimp only at hSw
    go_simp
    all_goals with_reducible rfl
  try simp only [Act.put]
  refine' wpAnyH_take (i := 14) (v := ?v14) rfl (by kernel_rfl) (by kernel_rfl) (by kernel_rfl) (fun _ _ _ h => h) (Or.inl ⟨by go_simp, ?hy14⟩) hHeld ?rest14
  case hy14 =>
    intro w hSw
    try dsimp only at hSw
    go_simp
    all_goals with_reducible rfl
  try simp only [Act.put]
  refine wpAnyH_ready (rs := [13]) (by kernel_rfl) (by simp) ?_
  refine AllReadyH.cons rfl (fun K hK => ?_) AllReadyH.nil
  go_simp
  go_at_call 40; refine (valid_any _ false).mono ?_; rintro e w1 ⟨rfl, rfl⟩
  go_wp2_with fail
  refine hK.out _ _ ?_ (fun hHeld => ?_)
  · exact hHeld
  clear hK K
  try simp only [Act.put, List.setIfInBounds_toArray, List.set_cons_zero, List.set_cons_succ]
  refine wpAnyH_ready (rs := [15]) (by kernel_rfl) (by simp) ?_
  refine AllReadyH.cons rfl (fun K hK => ?_) AllReadyH.nil
  go_simp
  go_at_call 39; refine hst.out.mono ?_; rintro e w' ⟨rfl, hE, hF⟩; obtain ⟨j1, j2⟩ := hKK.out _ hF; have y1 := j1.cell 0; have y2 := j2.cell 0; have y4 := hE.blk.cell 1; rw [hlen] at y4
  go_wp2_with fail
  refine hK.out _ _ ?_ (fun hHeld => ?_)
  · exact ⟨y1, y2, y4⟩
  clear hK K
  try simp only [Act.put, List.setIfInBounds_toArray, List.set_cons_zero, List.set_cons_succ]
  refine wpAnyH_ready (rs := [16]) (by kernel_rfl) (by simp) ?_
  refine AllReadyH.cons rfl (fun K hK => ?_) AllReadyH.nil
  go_simp
  refine hK.out _ _ ?_ (fun hHeld => ?_)
  · exact hHeld
  clear hK K
  try simp only [Act.put, List.setIfInBounds_toArray, List.set_cons_zero, List.set_cons_succ]
  refine wpAnyH_done (by kernel_rfl) ?_ _
  go_wp2_with fail
  go_ret
  exact ⟨rfl, hE, (DFr.ofBelow hBB.out).trans hF⟩
end
end Go.Proofs.Ytgenifcikfbfhaa
