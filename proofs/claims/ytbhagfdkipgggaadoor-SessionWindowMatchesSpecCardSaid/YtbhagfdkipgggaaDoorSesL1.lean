/-
  Layer 29 (session): the law of the window.
-/
import Derived.Test.YtbhagfdkipgggaaDoorSanW4
import Derived.Test.YtbhagfdkipgggaaDoorSesP4
namespace Go.Proofs.YtbhagfdkipgggaaDoor
open Go.RowKit Go.Shelf
attribute [local go_sem] Oper.semAt_some
set_option maxRecDepth 100000 in
set_option maxHeartbeats 4000000 in
theorem law_window (w : World) (s : Ses) (n : Int) (hK : KAt w 1) (hs : s.key.size ≤ 400 → s.Fits) (hk : s.key.size ≤ maxLen) (hn : -9223372036854775808 ≤ n ∧ n < 9223372036854775808) :
    Calls Tryd.prog 5 #[sesV s, .int .i64 n] w fun e w' => e = .returned (.bool true) ∧ Below w.heap.size w w' := by
  have HSA : Hid (∀ wx, Below w.heap.size w wx → Calls Tryd.prog 10 #[] wx fun e w' => e = .returned (.bool true) ∧ Below wx.heap.size wx w') := fun wx hB => sanity_any wx (hK.below hB)
  clear hK
  by_cases hk4 : s.key.size ≤ 400
  · have hfit := hs hk4
    have hfit2 := mark_fits hfit n hn
    have HM : Hid (∀ wx, Calls Tryd.prog 23 #[sesV s, .int .i64 n] wx fun e w' => e = .returned (sesV (markP s n)) ∧ Below wx.heap.size wx w') := fun wx => mark_any wx s n hfit
    have HRM : Hid (∀ wx, Calls Tryd.prog 24 #[sesV s, .int .i64 n] wx fun e w' => e = .returned (sesV (markP s n)) ∧ Below wx.heap.size wx w') := fun wx => rmark_any wx s n hfit hn
    have HFR : Hid (∀ wx, Calls Tryd.prog 25 #[sesV s, .int .i64 n] wx fun e w' => e = .returned (.bool (freshP s n)) ∧ Below wx.heap.size wx w') := fun wx => fresh_any wx s n hfit
    have HRF : Hid (∀ wx, Calls Tryd.prog 26 #[sesV s, .int .i64 n] wx fun e w' => e = .returned (.bool (freshP s n)) ∧ Below wx.heap.size wx w') := fun wx => rfresh_any wx s n hfit hn
    have HF2 : Hid (∀ wx, Calls Tryd.prog 25 #[sesV (markP s n), .int .i64 n] wx fun e w' => e = .returned (.bool false) ∧ Below wx.heap.size wx w') := fun wx => by have h := fresh_any wx (markP s n) n hfit2; rw [mark_not_fresh] at h; exact h
    have HV1 : Hid (∀ wx, Calls Tryd.prog 21 #[sesV s] wx fun e w' => e = .returned (.bool (validP s)) ∧ Below wx.heap.size wx w') := fun wx => valid_any wx s hfit
    have HV2 : validP s = true → Hid (∀ wx, Calls Tryd.prog 21 #[sesV (markP s n)] wx fun e w' => e = .returned (.bool true) ∧ Below wx.heap.size wx w') := fun hv wx => by have h := valid_any wx (markP s n) hfit2; rw [mark_valid s n hv] at h; exact h
    have dk : decide ((400 : Int) < (s.key.size : Int)) = false := decide_eq_false (by omega)
    clear hfit hfit2 hn hs hk
    generalize validP s = V at *
    generalize freshP s n = F at *
    generalize markP s n = Q at *
    obtain ⟨id, role, side, key, sent, top, seen⟩ := s
    obtain ⟨aid, arole, aside, akey, asent, atop, aseen⟩ := Q
    unfold sesV sesC at HM HRM HFR HRF HF2 HV1 HV2 ⊢
    dsimp only at HM HRM HFR HRF HF2 HV1 HV2 dk ⊢
    go_enter Tryd.func5, Tryd.ntmps5
    go_upto_region 4 with (first
      | (go_at_call 10; refine (HSA.out _ ((Below.refl w.heap.size w).alloc (Nat.le_refl _) _)).mono ?_; rintro e w1 ⟨rfl, hB⟩; have HP1 := Lib.hid ((Blk.new w 32 #[.int .i64 id, .int .i64 role, .int .i64 side, .string key, .int .i64 sent, .int .i64 top, .int .u64 (seen : Int)]).below hB (by rw [World.size_alloc]; exact Nat.lt_succ_self _)); have HB1 := Lib.hid (((Below.refl w.heap.size w).alloc (Nat.le_refl _) (.cells #[.int .i64 id, .int .i64 role, .int .i64 side, .string key, .int .i64 sent, .int .i64 top, .int .u64 (seen : Int)] 32)).trans (hB.mono (by rw [World.size_alloc]; exact Nat.le_succ _))); have c3 := HP1.out.cell 3; clear hB)
      | fail)
    clear c3
    have c0 := HP1.out.cell 0; have c1 := HP1.out.cell 1; have c2 := HP1.out.cell 2; have c3 := HP1.out.cell 3; have c4 := HP1.out.cell 4; have c5 := HP1.out.cell 5; have c6 := HP1.out.cell 6
    go_upto_region 5 with (first
      | (go_at_call 23; refine (HM.out _).mono ?_; rintro e w2 ⟨rfl, hB⟩; have HP2 := Lib.hid (HP1.out.below hB HP1.out.lt); have HB2 := Lib.hid (HB1.out.trans (hB.mono HB1.out.size)); clear hB)
      | fail)
    refine world_is (P := fun W => Code.wp _ _ _ _ W) (fun W3 hW3 => ?_)
    have HP3 : Hid (Blk W3 w.heap.size 32 #[.int .i64 id, .int .i64 role, .int .i64 side, .string key, .int .i64 sent, .int .i64 top, .int .u64 (seen : Int)]) := by unfold Hid; rw [← hW3]; exact HP2.out.alloc _
    have HA3 : Hid (Blk W3 w2.heap.size 32 #[.int .i64 aid, .int .i64 arole, .int .i64 aside, .string akey, .int .i64 asent, .int .i64 atop, .int .u64 (aseen : Int)]) := by unfold Hid; rw [← hW3]; exact Blk.new w2 _ _
    have HB3 : Hid (Below w.heap.size w W3) := by unfold Hid; rw [← hW3]; exact HB2.out.alloc HB2.out.size _
    clear hW3 c0 c1 c2 c3 c4 c5 c6 HP1 HB1 HP2 HB2 HM
    generalize w2.heap.size = gA at *
    have HS : Hid (∀ wx, Below W3.heap.size W3 wx → (wx.cell? ⟨w.heap.size, 0, none⟩ = some (.int .i64 id) ∧ wx.cell? ⟨w.heap.size, 1, none⟩ = some (.int .i64 role) ∧ wx.cell? ⟨w.heap.size, 2, none⟩ = some (.int .i64 side) ∧ wx.cell? ⟨w.heap.size, 3, none⟩ = some (.string key) ∧ wx.cell? ⟨w.heap.size, 4, none⟩ = some (.int .i64 sent) ∧ wx.cell? ⟨w.heap.size, 5, none⟩ = some (.int .i64 top) ∧ wx.cell? ⟨w.heap.size, 6, none⟩ = some (.int .u64 (seen : Int))) ∧ (wx.cell? ⟨gA, 0, none⟩ = some (.int .i64 aid) ∧ wx.cell? ⟨gA, 1, none⟩ = some (.int .i64 arole) ∧ wx.cell? ⟨gA, 2, none⟩ = some (.int .i64 aside) ∧ wx.cell? ⟨gA, 3, none⟩ = some (.string akey) ∧ wx.cell? ⟨gA, 4, none⟩ = some (.int .i64 asent) ∧ wx.cell? ⟨gA, 5, none⟩ = some (.int .i64 atop) ∧ wx.cell? ⟨gA, 6, none⟩ = some (.int .u64 (aseen : Int)))) := fun wx hB => ⟨⟨(HP3.out.below hB HP3.out.lt).cell 0, (HP3.out.below hB HP3.out.lt).cell 1, (HP3.out.below hB HP3.out.lt).cell 2, (HP3.out.below hB HP3.out.lt).cell 3, (HP3.out.below hB HP3.out.lt).cell 4, (HP3.out.below hB HP3.out.lt).cell 5, (HP3.out.below hB HP3.out.lt).cell 6⟩, ⟨(HA3.out.below hB HA3.out.lt).cell 0, (HA3.out.below hB HA3.out.lt).cell 1, (HA3.out.below hB HA3.out.lt).cell 2, (HA3.out.below hB HA3.out.lt).cell 3, (HA3.out.below hB HA3.out.lt).cell 4, (HA3.out.below hB HA3.out.lt).cell 5, (HA3.out.below hB HA3.out.lt).cell 6⟩⟩
    have hFF : (F != F) = false := by cases F <;> rfl
    refine wp_region_held_drew (S := (fun w' => (w'.cell? ⟨w.heap.size, 0, none⟩ = some (.int .i64 id) ∧ w'.cell? ⟨w.heap.size, 1, none⟩ = some (.int .i64 role) ∧ w'.cell? ⟨w.heap.size, 2, none⟩ = some (.int .i64 side) ∧ w'.cell? ⟨w.heap.size, 3, none⟩ = some (.string key) ∧ w'.cell? ⟨w.heap.size, 4, none⟩ = some (.int .i64 sent) ∧ w'.cell? ⟨w.heap.size, 5, none⟩ = some (.int .i64 top) ∧ w'.cell? ⟨w.heap.size, 6, none⟩ = some (.int .u64 (seen : Int))) ∧ (w'.cell? ⟨gA, 0, none⟩ = some (.int .i64 aid) ∧ w'.cell? ⟨gA, 1, none⟩ = some (.int .i64 arole) ∧ w'.cell? ⟨gA, 2, none⟩ = some (.int .i64 aside) ∧ w'.cell? ⟨gA, 3, none⟩ = some (.string akey) ∧ w'.cell? ⟨gA, 4, none⟩ = some (.int .i64 asent) ∧ w'.cell? ⟨gA, 5, none⟩ = some (.int .i64 atop) ∧ w'.cell? ⟨gA, 6, none⟩ = some (.int .u64 (aseen : Int))))) (by kernel_rfl) (HS.out _ (Below.refl W3.heap.size W3).drew) (fun hHeld => ?_)
    refine' wpAnyH_take (i := 0) (v := ?v0A) rfl (by kernel_rfl) (by kernel_rfl) (by kernel_rfl) (fun _ _ _ h => h) (Or.inl ⟨by go_simp, ?hy0A⟩) hHeld ?rest0A
    case hy0A =>
      intro w hSw
      try dsimp only at hSw
      go_simp
      all_goals with_reducible rfl
    try simp only [Act.put, List.setIfInBounds_toArray, List.set_cons_zero, List.set_cons_succ, List.getElem_toArray, List.getElem_cons_zero]
    refine' wpAnyH_take (i := 1) (v := ?v1A) rfl (by kernel_rfl) (by kernel_rfl) (by kernel_rfl) (fun _ _ _ h => h) (Or.inl ⟨by go_simp, ?hy1A⟩) hHeld ?rest1A
    case hy1A =>
      intro w hSw
      try dsimp only at hSw
      go_simp
      all_goals with_reducible rfl
    try simp only [Act.put, List.setIfInBounds_toArray, List.set_cons_zero, List.set_cons_succ, List.getElem_toArray, List.getElem_cons_zero, List.getElem_cons_succ]
    refine' wpAnyH_take (i := 2) (v := ?v2A) rfl (by kernel_rfl) (by kernel_rfl) (by kernel_rfl) (fun _ _ _ h => h) (Or.inl ⟨by go_simp, ?hy2A⟩) hHeld ?rest2A
    case hy2A =>
      intro w hSw
      try dsimp only at hSw
      go_simp
      all_goals with_reducible rfl
    try simp only [Act.put, List.setIfInBounds_toArray, List.set_cons_zero, List.set_cons_succ, List.getElem_toArray, List.getElem_cons_zero, List.getElem_cons_succ]
    refine wpAnyH_ready (rs := [3]) (by kernel_rfl) (by simp) ?_
    refine AllReadyH.cons rfl (fun K hK => ?_) AllReadyH.nil
    go_simp
    go_at_call 24
    refine (HRM.out _).mono ?_
    rintro e w4 ⟨rfl, hB⟩
    have HB34 := Lib.hid ((Below.refl W3.heap.size W3).drew.trans hB)
    clear hB
    go_wp2_with fail
    refine hK.out _ _ ?_ (fun hHeld2 => ?_)
    · exact HS.out _ HB34.out
    clear hK K hHeld
    have hHeld := hHeld2
    clear hHeld2
    try simp only [Act.put, List.setIfInBounds_toArray, List.set_cons_zero, List.set_cons_succ, List.getElem_toArray, List.getElem_cons_zero, List.getElem_cons_succ]
    refine' wpAnyH_take (i := 4) (v := ?v4A) rfl (by kernel_rfl) (by kernel_rfl) (by kernel_rfl) (fun _ _ _ h => h) (Or.inl ⟨by go_simp, ?hy4A⟩) hHeld ?rest4A
    case hy4A =>
      intro w hSw
      try dsimp only at hSw
      go_simp
      all_goals with_reducible rfl
    try simp only [Act.put, List.setIfInBounds_toArray, List.set_cons_zero, List.set_cons_succ, List.getElem_toArray, List.getElem_cons_zero, List.getElem_cons_succ]
    refine' wpAnyH_take (i := 5) (v := ?v5A) rfl (by kernel_rfl) (by kernel_rfl) (by kernel_rfl) (fun _ _ _ h => h) (Or.inl ⟨by go_simp, ?hy5A⟩) hHeld ?rest5A
    case hy5A =>
      intro w hSw
      try dsimp only at hSw
      go_simp
      all_goals with_reducible rfl
    try simp only [Act.put, List.setIfInBounds_toArray, List.set_cons_zero, List.set_cons_succ, List.getElem_toArray, List.getElem_cons_zero, List.getElem_cons_succ]
    refine' wpAnyH_take (i := 6) (v := ?v6A) rfl (by kernel_rfl) (by kernel_rfl) (by kernel_rfl) (fun _ _ _ h => h) (Or.inl ⟨by go_simp, ?hy6A⟩) hHeld ?rest6A
    case hy6A =>
      intro w hSw
      try dsimp only at hSw
      go_simp
      all_goals with_reducible rfl
    try simp only [Act.put, List.setIfInBounds_toArray, List.set_cons_zero, List.set_cons_succ, List.getElem_toArray, List.getElem_cons_zero, List.getElem_cons_succ]
    refine' wpAnyH_take (i := 7) (v := ?v7A) rfl (by kernel_rfl) (by kernel_rfl) (by kernel_rfl) (fun _ _ _ h => h) (Or.inl ⟨by go_simp, ?hy7A⟩) hHeld ?rest7A
    case hy7A =>
      intro w hSw
      try dsimp only at hSw
      go_simp
      all_goals with_reducible rfl
    try simp only [Act.put, List.setIfInBounds_toArray, List.set_cons_zero, List.set_cons_succ, List.getElem_toArray, List.getElem_cons_zero, List.getElem_cons_succ]
    refine' wpAnyH_take (i := 9) (v := ?v9A) rfl (by kernel_rfl) (by kernel_rfl) (by kernel_rfl) (fun _ _ _ h => h) (Or.inl ⟨by go_simp, ?hy9A⟩) hHeld ?rest9A
    case hy9A =>
      intro w hSw
      try dsimp only at hSw
      go_simp
      all_goals with_reducible rfl
    try simp only [Act.put, List.setIfInBounds_toArray, List.set_cons_zero, List.set_cons_succ, List.getElem_toArray, List.getElem_cons_zero, List.getElem_cons_succ]
    refine' wpAnyH_take (i := 10) (v := ?v10A) rfl (by kernel_rfl) (by kernel_rfl) (by kernel_rfl) (fun _ _ _ h => h) (Or.inl ⟨by go_simp, ?hy10A⟩) hHeld ?rest10A
    case hy10A =>
      intro w hSw
      try dsimp only at hSw
      go_simp
      all_goals with_reducible rfl
    try simp only [Act.put, List.setIfInBounds_toArray, List.set_cons_zero, List.set_cons_succ, List.getElem_toArray, List.getElem_cons_zero, List.getElem_cons_succ]
    refine wpAnyH_ready (rs := [8]) (by kernel_rfl) (by simp) ?_
    refine AllReadyH.cons rfl (fun K hK => ?_) AllReadyH.nil
    go_simp
    go_at_call 25
    refine (HFR.out _).mono ?_
    rintro e w5 ⟨rfl, hB⟩
    have HB35 := Lib.hid (HB34.out.trans (hB.mono HB34.out.size))
    clear hB
    go_wp2_with fail
    refine hK.out _ _ ?_ (fun hHeld2 => ?_)
    · exact HS.out _ HB35.out
    clear hK K hHeld
    have hHeld := hHeld2
    clear hHeld2
    try simp only [Act.put, List.setIfInBounds_toArray, List.set_cons_zero, List.set_cons_succ, List.getElem_toArray, List.getElem_cons_zero, List.getElem_cons_succ]
    refine wpAnyH_ready (rs := [11]) (by kernel_rfl) (by simp) ?_
    refine AllReadyH.cons rfl (fun K hK => ?_) AllReadyH.nil
    go_simp
    go_at_call 26
    refine (HRF.out _).mono ?_
    rintro e w6 ⟨rfl, hB⟩
    have HB36 := Lib.hid (HB35.out.trans (hB.mono HB35.out.size))
    clear hB
    go_wp2_with fail
    refine hK.out _ _ ?_ (fun hHeld2 => ?_)
    · exact HS.out _ HB36.out
    clear hK K hHeld
    have hHeld := hHeld2
    clear hHeld2
    try simp only [Act.put, List.setIfInBounds_toArray, List.set_cons_zero, List.set_cons_succ, List.getElem_toArray, List.getElem_cons_zero, List.getElem_cons_succ]
    refine' wpAnyH_take (i := 12) (v := ?v12A) rfl (by kernel_rfl) (by kernel_rfl) (by kernel_rfl) (fun _ _ _ h => h) (Or.inl ⟨by go_simp, ?hy12A⟩) hHeld ?rest12A
    case hy12A =>
      intro w hSw
      try dsimp only at hSw
      go_simp
      all_goals with_reducible rfl
    try simp only [Act.put, List.setIfInBounds_toArray, List.set_cons_zero, List.set_cons_succ, List.getElem_toArray, List.getElem_cons_zero, List.getElem_cons_succ]
    refine' wpAnyH_take (i := 13) (v := ?v13A) rfl (by kernel_rfl) (by kernel_rfl) (by kernel_rfl) (fun _ _ _ h => h) (Or.inl ⟨by go_simp, ?hy13A⟩) hHeld ?rest13A
    case hy13A =>
      intro w hSw
      try dsimp only at hSw
      go_simp
      all_goals with_reducible rfl
    try simp only [Act.put, List.setIfInBounds_toArray, List.set_cons_zero, List.set_cons_succ, List.getElem_toArray, List.getElem_cons_zero, List.getElem_cons_succ]
    refine wpAnyH_done (by kernel_rfl) ?_ _
    clear hHeld

    have HB6 := Lib.hid (HB3.out.trans (HB36.out.mono HB3.out.size))
    have HP6 := Lib.hid (HP3.out.below HB36.out HP3.out.lt)
    have HA6 := Lib.hid (HA3.out.below HB36.out HA3.out.lt)
    have a0 := HA6.out.cell 0; have a1 := HA6.out.cell 1; have a2 := HA6.out.cell 2; have a3 := HA6.out.cell 3; have a4 := HA6.out.cell 4; have a5 := HA6.out.cell 5; have a6 := HA6.out.cell 6
    cases V with
    | false =>
      go_wp2_with (first
        | (go_at_call 21; refine (HV1.out _).mono ?_; rintro e w8 ⟨rfl, hB⟩; have HB8 := Lib.hid (HB7.out.trans (hB.mono HB7.out.size)); clear hB)
        | (go_at_call 25; refine (HF2.out _).mono ?_; rintro e w7 ⟨rfl, hB⟩; have HB7 := Lib.hid (HB6.out.trans (hB.mono HB6.out.size)); have HP7 := Lib.hid (HP6.out.below hB HP6.out.lt); have p0 := HP7.out.cell 0; have p1 := HP7.out.cell 1; have p2 := HP7.out.cell 2; have p3 := HP7.out.cell 3; have p4 := HP7.out.cell 4; have p5 := HP7.out.cell 5; have p6 := HP7.out.cell 6; clear hB)
        | fail)
      go_ret
      exact ⟨rfl, HB8.out⟩
    | true =>
      have HV3 := HV2 rfl
      go_wp2_with (first
        | (have hmk := HB8; clear hmk; go_at_call 21; refine (HV3.out _).mono ?_; rintro e w9 ⟨rfl, hB⟩; have HB9 := Lib.hid (HB8.out.trans (hB.mono HB8.out.size)); clear hB)
        | (go_at_call 21; refine (HV1.out _).mono ?_; rintro e w8 ⟨rfl, hB⟩; have HB8 := Lib.hid (HB7.out.trans (hB.mono HB7.out.size)); have HA8 := Lib.hid (HA7.out.below hB HA7.out.lt); have q0 := HA8.out.cell 0; have q1 := HA8.out.cell 1; have q2 := HA8.out.cell 2; have q3 := HA8.out.cell 3; have q4 := HA8.out.cell 4; have q5 := HA8.out.cell 5; have q6 := HA8.out.cell 6; clear hB)
        | (go_at_call 25; refine (HF2.out _).mono ?_; rintro e w7 ⟨rfl, hB⟩; have HB7 := Lib.hid (HB6.out.trans (hB.mono HB6.out.size)); have HA7 := Lib.hid (HA6.out.below hB HA6.out.lt); have HP7 := Lib.hid (HP6.out.below hB HP6.out.lt); have p0 := HP7.out.cell 0; have p1 := HP7.out.cell 1; have p2 := HP7.out.cell 2; have p3 := HP7.out.cell 3; have p4 := HP7.out.cell 4; have p5 := HP7.out.cell 5; have p6 := HP7.out.cell 6; clear hB)
        | fail)
      go_ret
      exact ⟨rfl, HB9.out⟩
  · have dk : decide ((400 : Int) < (s.key.size : Int)) = true := decide_eq_true (by omega)
    obtain ⟨id, role, side, key, sent, top, seen⟩ := s
    unfold sesV sesC
    dsimp only at dk ⊢
    go_enter Tryd.func5, Tryd.ntmps5
    go_wp2_with (first
      | (go_at_call 10; refine (HSA.out _ ((Below.refl w.heap.size w).alloc (Nat.le_refl _) _)).mono ?_; rintro e w1 ⟨rfl, hB⟩; have HP1 := Lib.hid ((Blk.new w 32 #[.int .i64 id, .int .i64 role, .int .i64 side, .string key, .int .i64 sent, .int .i64 top, .int .u64 (seen : Int)]).below hB (by rw [World.size_alloc]; exact Nat.lt_succ_self _)); have HB1 := Lib.hid (((Below.refl w.heap.size w).alloc (Nat.le_refl _) (.cells #[.int .i64 id, .int .i64 role, .int .i64 side, .string key, .int .i64 sent, .int .i64 top, .int .u64 (seen : Int)] 32)).trans (hB.mono (by rw [World.size_alloc]; exact Nat.le_succ _))); have c3 := HP1.out.cell 3; clear hB)
      | fail)
    go_ret
    exact ⟨rfl, HB1.out⟩
end Go.Proofs.YtbhagfdkipgggaaDoor
