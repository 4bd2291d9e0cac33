/-
  The seal's specification: Seal and Open, and the context of a message, their walks.
-/
import Derived.Test.YtbhagfdkipgggaaDoorMX
import Derived.Test.YtbhagfdkipgggaaDoorMG
import Derived.Test.YtbhagfdkipgggaaDoorMB
import Derived.Test.YtbhagfdkipgggaaDoorMK
namespace Go.Proofs.YtbhagfdkipgggaaDoor
open Go.RowKit Go.Shelf
attribute [local go_sem] Oper.semAt_some
set_option maxRecDepth 100000 in
theorem rseal_any (w : World) (key ad t : ByteArray) (hk : key.size = 32) (had : ad.size ≤ 1000000) (ht : t.size ≤ 1000000) (hK : KAt w 0) :
    Calls Tryd.prog 49 #[.string key, .string ad, .string t] w fun e w' => e = .returned (.tuple #[.string (txt (sealL (bl key) (bl ad) (bl t))), .int .i64 0]) ∧ Below w.heap.size w w' := by
  have HKEYS := Lib.hid (rkeys_any w key hk hK)
  obtain ⟨E, hE⟩ : ∃ E, txt (encK (bl key)) = E := ⟨_, rfl⟩
  obtain ⟨M, hM⟩ : ∃ M, txt (macK (bl key)) = M := ⟨_, rfl⟩
  have hEb : bl E = encK (bl key) := by rw [← hE]; rfl
  have hMb : bl M = macK (bl key) := by rw [← hM]; rfl
  have hEs : E.size = 32 := by rw [← bl_len, hEb]; exact macL_len _ _
  have hMs : M.size = 32 := by rw [← bl_len, hMb]; exact macL_len _ _
  rw [hE, hM] at HKEYS
  have a1 : decide ((1048576 : Int) < (ad.size : Int)) = false := decide_eq_false (by omega)
  have a2 : decide ((1048576 : Int) < (t.size : Int)) = false := decide_eq_false (by omega)
  obtain ⟨N, hN⟩ : ∃ N, txt (nonceL (bl M) (bl ad) (bl t)) = N := ⟨_, rfl⟩
  have hNb : bl N = nonceL (bl M) (bl ad) (bl t) := by rw [← hN]; rfl
  have hNs : N.size = 12 := by rw [← bl_len, hNb]; exact nonceL_len _ _ _
  obtain ⟨Y, hY⟩ : ∃ Y, txt (xorL (bl E) 1 (bl N) (bl t)) = Y := ⟨_, rfl⟩
  have hYb : bl Y = xorL (bl E) 1 (bl N) (bl t) := by rw [← hY]; rfl
  have hYs : Y.size = t.size := by rw [← bl_len, hYb, xorL_len, bl_len]
  obtain ⟨G, hG⟩ : ∃ G, txt (tagL (bl M) (bl N) (bl ad) (bl Y)) = G := ⟨_, rfl⟩
  have hGb : bl G = tagL (bl M) (bl N) (bl ad) (bl Y) := by rw [← hG]; rfl
  have hGs : G.size = 16 := by rw [← bl_len, hGb]; exact tagL_len _ _ _ _
  have HN : Hid (∀ wx, Below w.heap.size w wx → Calls Tryd.prog 75 #[.string M, .string ad, .string t] wx fun e w' => e = .returned (.string N) ∧ Below wx.heap.size wx w') := fun wx hB => by
    have h := rnonce_any wx M ad t (by omega) (by omega) (by omega) (hK.below hB)
    rw [hN] at h
    exact h
  have HX : Hid (∀ wx, Calls Tryd.prog 76 #[.string E, .int .u32 1, .string N, .string t] wx fun e w' => e = .returned (.tuple #[.string Y, .int .i64 0]) ∧ Below wx.heap.size wx w') := fun wx => by
    have h := rxor_any wx E N t 1 hEs hNs (by omega)
    rw [hY] at h
    exact h
  have HT : Hid (∀ wx, Below w.heap.size w wx → Calls Tryd.prog 77 #[.string M, .string N, .string ad, .string Y] wx fun e w' => e = .returned (.string G) ∧ Below wx.heap.size wx w') := fun wx hB => by
    have h := rtag_any wx M N ad Y (by omega) (by omega) (by omega) (by omega) (hK.below hB)
    rw [hG] at h
    exact h
  have b1 : ∀ wx, (Op.stringOp .add N Y).run Tryd.prog wx = .ok (.string (N ++ Y)) wx := fun wx => run_string_add_sum wx _ _ (by omega)
  obtain ⟨U1, hU1⟩ : ∃ U, N ++ Y = U := ⟨_, rfl⟩
  rw [hU1] at b1
  have hU1b : bl U1 = bl N ++ bl Y := by rw [← hU1, bl_append]
  have hU1s : U1.size = 12 + t.size := by rw [← bl_len, hU1b, List.length_append, bl_len, bl_len, hNs, hYs]
  have b2 : ∀ wx, (Op.stringOp .add U1 G).run Tryd.prog wx = .ok (.string (U1 ++ G)) wx := fun wx => run_string_add_sum wx _ _ (by omega)
  have hfin : Hid (U1 ++ G = txt (sealL (bl key) (bl ad) (bl t))) := by
    have h : bl (U1 ++ G) = sealL (bl key) (bl ad) (bl t) := by
      rw [bl_append, hU1b, hGb, hYb, hNb, hEb, hMb]
      rfl
    unfold Hid
    rw [← h, txt_bl]
  generalize U1 ++ G = U at *
  clear hE hM hEb hMb hEs hMs hN hNb hNs hY hYb hYs hG hGb hGs hU1 hU1b hU1s hK hk had ht
  go_enter Tryd.func49, Tryd.ntmps49
  go_wp2_with (first
    | (go_at_call 74; refine HKEYS.out.mono ?_; rintro e w1 ⟨rfl, hB⟩; have HB1 := Lib.hid hB; clear hB)
    | (go_at_call 75; refine (HN.out _ HB1.out).mono ?_; rintro e w2 ⟨rfl, hB⟩; have HB2 := Lib.hid (HB1.out.trans (hB.mono HB1.out.size)); clear hB)
    | (go_at_call 76; refine (HX.out _).mono ?_; rintro e w3 ⟨rfl, hB⟩; have HB3 := Lib.hid (HB2.out.trans (hB.mono HB2.out.size)); clear hB)
    | (go_at_call 77; refine (HT.out _ HB3.out).mono ?_; rintro e w4 ⟨rfl, hB⟩; have HB4 := Lib.hid (HB3.out.trans (hB.mono HB3.out.size)); clear hB)
    | fail)
  go_ret2
  exact ⟨by rw [← hfin.out]; rfl, HB4.out⟩
set_option maxRecDepth 100000 in
set_option maxHeartbeats 3200000 in
theorem ropen_any (w : World) (key ad blob : ByteArray) (hk : key.size = 32) (had : ad.size ≤ 1000000) (hb : blob.size ≤ 1000000) (hK : KAt w 0) :
    Calls Tryd.prog 52 #[.string key, .string ad, .string blob] w fun e w' => e = .returned (.tuple #[.string (txt (openL (bl key) (bl ad) (bl blob)).1), .int .i64 ((openL (bl key) (bl ad) (bl blob)).2 : Nat)]) ∧ Below w.heap.size w w' := by
  have HKEYS := Lib.hid (rkeys_any w key hk hK)
  obtain ⟨E, hE⟩ : ∃ E, txt (encK (bl key)) = E := ⟨_, rfl⟩
  obtain ⟨M, hM⟩ : ∃ M, txt (macK (bl key)) = M := ⟨_, rfl⟩
  have hEb : bl E = encK (bl key) := by rw [← hE]; rfl
  have hMb : bl M = macK (bl key) := by rw [← hM]; rfl
  have hEs : E.size = 32 := by rw [← bl_len, hEb]; exact macL_len _ _
  have hMs : M.size = 32 := by rw [← bl_len, hMb]; exact macL_len _ _
  rw [hE, hM] at HKEYS
  have a1 : decide ((1048576 : Int) < (ad.size : Int)) = false := decide_eq_false (by omega)
  have a2 : decide ((1048604 : Int) < (blob.size : Int)) = false := decide_eq_false (by omega)
  by_cases h28 : blob.size < 28
  · have a5 : decide ((blob.size : Int) < 28) = true := decide_eq_true (by omega)
    have a6 : decide (blob.size < 28) = true := decide_eq_true h28
    have hfin : Hid (openL (bl key) (bl ad) (bl blob) = ([], 5)) := by unfold Hid openL; rw [if_pos (by rw [bl_len]; exact h28)]
    clear hE hM hEb hMb hEs hMs hK
    go_enter Tryd.func52, Tryd.ntmps52
    go_wp2_with (first | (go_at_call 74; refine HKEYS.out.mono ?_; rintro e w1 ⟨rfl, hB⟩; have HB1 := Lib.hid hB; clear hB) | fail)
    go_ret2
    exact ⟨by rw [hfin.out]; rfl, HB1.out⟩
  · have a5 : decide ((blob.size : Int) < 28) = false := decide_eq_false (by omega)
    have a6 : decide (blob.size < 28) = false := decide_eq_false h28
    obtain ⟨D, hD⟩ : ∃ D, blob.size - 16 = D := ⟨_, rfl⟩
    have d1 : (blob.size : Int) - 16 = (D : Int) := by omega
    have d2 : (12 : Int) ≤ (D : Int) := by omega
    have d3 : (D : Int) ≤ (blob.size : Int) := by omega
    have d4 : (0 : Int) ≤ (D : Int) := by omega
    have d5 : (12 : Int) ≤ (blob.size : Int) := by omega
    have d6 : IntKind.i64.wrap (D : Int) = (D : Int) := i64_is D (by omega)
    have hNb : bl (blob.extract 0 12) = (bl blob).take 12 := by rw [bl_ext _ _ _ (by omega)]; rfl
    have hXb : bl (blob.extract 12 D) = ((bl blob).drop 12).take ((bl blob).length - 28) := by rw [bl_ext _ _ _ (by omega), bl_len, ← hD]; congr 1
    have hTb : bl (blob.extract D blob.size) = (bl blob).drop ((bl blob).length - 16) := by rw [bl_extract _ _ (by omega), bl_len, ← hD]
    have hNs : (blob.extract 0 12).size = 12 := by rw [← bl_len, hNb, List.length_take, bl_len]; omega
    have hXs : (blob.extract 12 D).size ≤ 1000000 := by rw [← bl_len, hXb, List.length_take, bl_len]; omega
    have g1 : ∀ wx, (Instr.slice 9 (.string blob) (some (.int .i64 12)) (some (.int .i64 (D : Int))) none).run Tryd.prog wx = .ok (.string (blob.extract 12 D)) wx := fun wx => by
      simp [go_sem, d2, d3]
    have g2 : ∀ wx, (Instr.slice 9 (.string blob) none (some (.int .i64 12)) none).run Tryd.prog wx = .ok (.string (blob.extract 0 12)) wx := fun wx => by
      simp [go_sem, d5]
    have g3 : ∀ wx, (Instr.slice 9 (.string blob) (some (.int .i64 (D : Int))) none none).run Tryd.prog wx = .ok (.string (blob.extract D blob.size)) wx := fun wx => by
      simp [go_sem, d3]
    obtain ⟨N, hNe⟩ : ∃ N, blob.extract 0 12 = N := ⟨_, rfl⟩
    obtain ⟨X, hXe⟩ : ∃ X, blob.extract 12 D = X := ⟨_, rfl⟩
    obtain ⟨TT, hTe⟩ : ∃ T, blob.extract D blob.size = T := ⟨_, rfl⟩
    rw [hNe] at g2 hNb hNs
    rw [hXe] at g1 hXb hXs
    rw [hTe] at g3 hTb
    obtain ⟨G, hG⟩ : ∃ G, txt (tagL (bl M) (bl N) (bl ad) (bl X)) = G := ⟨_, rfl⟩
    obtain ⟨Y, hY⟩ : ∃ Y, txt (xorL (bl E) 1 (bl N) (bl X)) = Y := ⟨_, rfl⟩
    have hYs : Y.size ≤ 1000000 := by rw [← hY, txt_size, xorL_len, bl_len]; exact hXs
    obtain ⟨V, hV⟩ : ∃ V, txt (nonceL (bl M) (bl ad) (bl Y)) = V := ⟨_, rfl⟩
    have HN : Hid (∀ wx, Below w.heap.size w wx → Calls Tryd.prog 75 #[.string M, .string ad, .string Y] wx fun e w' => e = .returned (.string V) ∧ Below wx.heap.size wx w') := fun wx hB => by
      have h := rnonce_any wx M ad Y (by omega) (by omega) (by omega) (hK.below hB)
      rw [hV] at h
      exact h
    have HX : Hid (∀ wx, Calls Tryd.prog 76 #[.string E, .int .u32 1, .string N, .string X] wx fun e w' => e = .returned (.tuple #[.string Y, .int .i64 0]) ∧ Below wx.heap.size wx w') := fun wx => by
      have h := rxor_any wx E N X 1 hEs hNs (by omega)
      rw [hY] at h
      exact h
    have HT : Hid (∀ wx, Below w.heap.size w wx → Calls Tryd.prog 77 #[.string M, .string N, .string ad, .string X] wx fun e w' => e = .returned (.string G) ∧ Below wx.heap.size wx w') := fun wx hB => by
      have h := rtag_any wx M N ad X (by omega) (by omega) (by omega) (by omega) (hK.below hB)
      rw [hG] at h
      exact h
    have hO : Hid (openL (bl key) (bl ad) (bl blob) = if G = TT then (if V = N then (bl Y, 0) else ([], 8)) else ([], 8)) :=
      open_texts (bl key) (bl ad) (bl blob) E M G V N X TT Y (by rw [bl_len]; exact h28) hEb hMb hNb hXb hTb hG hY hV
    clear hE hM hD hG hY hV hEb hMb hNb hXb hTb hEs hMs hNs hXs hK hYs hNe hXe hTe
    by_cases hGT : G = TT
    · rw [if_pos hGT] at hO
      have e1 : (TT.toList == G.toList) = true := by rw [hGT]; exact beq_self_eq_true _
      have e2 : (TT.data.toList == G.data.toList) = true := by rw [hGT]; exact beq_self_eq_true _
      by_cases hVN : V = N
      · rw [if_pos hVN] at hO
        have f1 : (V.toList == N.toList) = true := by rw [hVN]; exact beq_self_eq_true _
        have f2 : (V.data.toList == N.data.toList) = true := by rw [hVN]; exact beq_self_eq_true _
        clear hGT hVN
        go_enter Tryd.func52, Tryd.ntmps52
        go_upto_region 10 with (first | (go_at_call 74; refine HKEYS.out.mono ?_; rintro e w1 ⟨rfl, hB⟩; have HB1 := Lib.hid hB; clear hB) | fail)
        refine wp_region_held_drew (S := (fun _ => True)) (by kernel_rfl) trivial (fun hHeld => ?_)
        refine' wpAnyH_take (i := 0) (v := ?v0A) rfl (by kernel_rfl) (by kernel_rfl) (by kernel_rfl) (fun _ _ _ h => h) (Or.inl ⟨by rfl, ?hy0A⟩) hHeld ?rest0A
        case hy0A => intro w hSw; (try dsimp only at hSw); go_simp; all_goals with_reducible rfl
        try simp only [sA, gA]
        refine' wpAnyH_take (i := 1) (v := ?v1A) rfl (by kernel_rfl) (by kernel_rfl) (by kernel_rfl) (fun _ _ _ h => h) (Or.inl ⟨by rfl, ?hy1A⟩) hHeld ?rest1A
        case hy1A => intro w hSw; (try dsimp only at hSw); go_simp; all_goals with_reducible rfl
        try simp only [sA, gA]
        refine' wpAnyH_take (i := 2) (v := ?v2A) rfl (by kernel_rfl) (by kernel_rfl) (by kernel_rfl) (fun _ _ _ h => h) (Or.inl ⟨by rfl, ?hy2A⟩) hHeld ?rest2A
        case hy2A => intro w hSw; (try dsimp only at hSw); go_simp; all_goals with_reducible rfl
        try simp only [sA, gA]
        refine' wpAnyH_take (i := 3) (v := ?v3A) rfl (by kernel_rfl) (by kernel_rfl) (by kernel_rfl) (fun _ _ _ h => h) (Or.inl ⟨by rfl, ?hy3A⟩) hHeld ?rest3A
        case hy3A => intro w hSw; (try dsimp only at hSw); go_simp; all_goals with_reducible rfl
        try simp only [sA, gA]
        refine' wpAnyH_take (i := 4) (v := ?v4A) rfl (by kernel_rfl) (by kernel_rfl) (by kernel_rfl) (fun _ _ _ h => h) (Or.inl ⟨by rfl, ?hy4A⟩) hHeld ?rest4A
        case hy4A => intro w hSw; (try dsimp only at hSw); go_simp; all_goals with_reducible rfl
        try simp only [sA, gA]
        refine' wpAnyH_take (i := 5) (v := ?v5A) rfl (by kernel_rfl) (by kernel_rfl) (by kernel_rfl) (fun _ _ _ h => h) (Or.inl ⟨by rfl, ?hy5A⟩) hHeld ?rest5A
        case hy5A => intro w hSw; (try dsimp only at hSw); go_simp; all_goals with_reducible rfl
        try simp only [sA, gA]
        refine' wpAnyH_take (i := 6) (v := ?v6A) rfl (by kernel_rfl) (by kernel_rfl) (by kernel_rfl) (fun _ _ _ h => h) (Or.inl ⟨by rfl, ?hy6A⟩) hHeld ?rest6A
        case hy6A => intro w hSw; (try dsimp only at hSw); go_simp; all_goals with_reducible rfl
        try simp only [sA, gA]
        refine' wpAnyH_take (i := 7) (v := ?v7A) rfl (by kernel_rfl) (by kernel_rfl) (by kernel_rfl) (fun _ _ _ h => h) (Or.inl ⟨by rfl, ?hy7A⟩) hHeld ?rest7A
        case hy7A => intro w hSw; (try dsimp only at hSw); go_simp; all_goals with_reducible rfl
        try simp only [sA, gA]
        refine' wpAnyH_take (i := 8) (v := ?v8A) rfl (by kernel_rfl) (by kernel_rfl) (by kernel_rfl) (fun _ _ _ h => h) (Or.inl ⟨by rfl, ?hy8A⟩) hHeld ?rest8A
        case hy8A => intro w hSw; (try dsimp only at hSw); go_simp; all_goals with_reducible rfl
        try simp only [sA, gA]
        refine wpAnyH_ready (rs := [9]) (by kernel_rfl) (by simp) ?_
        refine AllReadyH.cons rfl (fun K hK => ?_) AllReadyH.nil
        go_simp
        go_at_call 77
        refine (HT.out _ HB1.out.drew).mono ?_
        rintro e w3 ⟨rfl, hB⟩
        have HB3 := Lib.hid (HB1.out.drew.trans (hB.mono HB1.out.size))
        clear hB
        go_wp2_with fail
        refine hK.out _ _ ?_ (fun hHeld2 => ?_)
        · exact trivial
        clear hK K hHeld
        have hHeld := hHeld2
        clear hHeld2
        try simp only [sA, gA]
        refine' wpAnyH_take (i := 10) (v := ?v10A) rfl (by kernel_rfl) (by kernel_rfl) (by kernel_rfl) (fun _ _ _ h => h) (Or.inl ⟨by rfl, ?hy10A⟩) hHeld ?rest10A
        case hy10A => intro w hSw; (try dsimp only at hSw); go_simp; all_goals with_reducible rfl
        try simp only [sA, gA]
        refine wpAnyH_done (by kernel_rfl) ?_ _
        clear hHeld
        go_wp2_with (first | (go_at_call 76; refine (HX.out _).mono ?_; rintro e w4 ⟨rfl, hB⟩; have HB4 := Lib.hid (HB3.out.trans (hB.mono HB3.out.size)); clear hB) | (go_at_call 75; refine (HN.out _ HB4.out).mono ?_; rintro e w5 ⟨rfl, hB⟩; have HB5 := Lib.hid (HB4.out.trans (hB.mono HB4.out.size)); clear hB) | fail)
        go_ret2
        exact ⟨by rw [hO.out]; exact congrArg (fun x => Ending.returned (.tuple #[.string x, .int .i64 0])) (txt_bl Y).symm, HB5.out⟩
      · rw [if_neg hVN] at hO
        have f1 : (V.toList == N.toList) = false := toList_ne hVN
        have f2 : (V.data.toList == N.data.toList) = false := data_ne hVN
        clear hGT hVN
        go_enter Tryd.func52, Tryd.ntmps52
        go_upto_region 10 with (first | (go_at_call 74; refine HKEYS.out.mono ?_; rintro e w1 ⟨rfl, hB⟩; have HB1 := Lib.hid hB; clear hB) | fail)
        refine wp_region_held_drew (S := (fun _ => True)) (by kernel_rfl) trivial (fun hHeld => ?_)
        refine' wpAnyH_take (i := 0) (v := ?v0B) rfl (by kernel_rfl) (by kernel_rfl) (by kernel_rfl) (fun _ _ _ h => h) (Or.inl ⟨by rfl, ?hy0B⟩) hHeld ?rest0B
        case hy0B => intro w hSw; (try dsimp only at hSw); go_simp; all_goals with_reducible rfl
        try simp only [sA, gA]
        refine' wpAnyH_take (i := 1) (v := ?v1B) rfl (by kernel_rfl) (by kernel_rfl) (by kernel_rfl) (fun _ _ _ h => h) (Or.inl ⟨by rfl, ?hy1B⟩) hHeld ?rest1B
        case hy1B => intro w hSw; (try dsimp only at hSw); go_simp; all_goals with_reducible rfl
        try simp only [sA, gA]
        refine' wpAnyH_take (i := 2) (v := ?v2B) rfl (by kernel_rfl) (by kernel_rfl) (by kernel_rfl) (fun _ _ _ h => h) (Or.inl ⟨by rfl, ?hy2B⟩) hHeld ?rest2B
        case hy2B => intro w hSw; (try dsimp only at hSw); go_simp; all_goals with_reducible rfl
        try simp only [sA, gA]
        refine' wpAnyH_take (i := 3) (v := ?v3B) rfl (by kernel_rfl) (by kernel_rfl) (by kernel_rfl) (fun _ _ _ h => h) (Or.inl ⟨by rfl, ?hy3B⟩) hHeld ?rest3B
        case hy3B => intro w hSw; (try dsimp only at hSw); go_simp; all_goals with_reducible rfl
        try simp only [sA, gA]
        refine' wpAnyH_take (i := 4) (v := ?v4B) rfl (by kernel_rfl) (by kernel_rfl) (by kernel_rfl) (fun _ _ _ h => h) (Or.inl ⟨by rfl, ?hy4B⟩) hHeld ?rest4B
        case hy4B => intro w hSw; (try dsimp only at hSw); go_simp; all_goals with_reducible rfl
        try simp only [sA, gA]
        refine' wpAnyH_take (i := 5) (v := ?v5B) rfl (by kernel_rfl) (by kernel_rfl) (by kernel_rfl) (fun _ _ _ h => h) (Or.inl ⟨by rfl, ?hy5B⟩) hHeld ?rest5B
        case hy5B => intro w hSw; (try dsimp only at hSw); go_simp; all_goals with_reducible rfl
        try simp only [sA, gA]
        refine' wpAnyH_take (i := 6) (v := ?v6B) rfl (by kernel_rfl) (by kernel_rfl) (by kernel_rfl) (fun _ _ _ h => h) (Or.inl ⟨by rfl, ?hy6B⟩) hHeld ?rest6B
        case hy6B => intro w hSw; (try dsimp only at hSw); go_simp; all_goals with_reducible rfl
        try simp only [sA, gA]
        refine' wpAnyH_take (i := 7) (v := ?v7B) rfl (by kernel_rfl) (by kernel_rfl) (by kernel_rfl) (fun _ _ _ h => h) (Or.inl ⟨by rfl, ?hy7B⟩) hHeld ?rest7B
        case hy7B => intro w hSw; (try dsimp only at hSw); go_simp; all_goals with_reducible rfl
        try simp only [sA, gA]
        refine' wpAnyH_take (i := 8) (v := ?v8B) rfl (by kernel_rfl) (by kernel_rfl) (by kernel_rfl) (fun _ _ _ h => h) (Or.inl ⟨by rfl, ?hy8B⟩) hHeld ?rest8B
        case hy8B => intro w hSw; (try dsimp only at hSw); go_simp; all_goals with_reducible rfl
        try simp only [sA, gA]
        refine wpAnyH_ready (rs := [9]) (by kernel_rfl) (by simp) ?_
        refine AllReadyH.cons rfl (fun K hK => ?_) AllReadyH.nil
        go_simp
        go_at_call 77
        refine (HT.out _ HB1.out.drew).mono ?_
        rintro e w3 ⟨rfl, hB⟩
        have HB3 := Lib.hid (HB1.out.drew.trans (hB.mono HB1.out.size))
        clear hB
        go_wp2_with fail
        refine hK.out _ _ ?_ (fun hHeld2 => ?_)
        · exact trivial
        clear hK K hHeld
        have hHeld := hHeld2
        clear hHeld2
        try simp only [sA, gA]
        refine' wpAnyH_take (i := 10) (v := ?v10B) rfl (by kernel_rfl) (by kernel_rfl) (by kernel_rfl) (fun _ _ _ h => h) (Or.inl ⟨by rfl, ?hy10B⟩) hHeld ?rest10B
        case hy10B => intro w hSw; (try dsimp only at hSw); go_simp; all_goals with_reducible rfl
        try simp only [sA, gA]
        refine wpAnyH_done (by kernel_rfl) ?_ _
        clear hHeld
        go_wp2_with (first | (go_at_call 76; refine (HX.out _).mono ?_; rintro e w4 ⟨rfl, hB⟩; have HB4 := Lib.hid (HB3.out.trans (hB.mono HB3.out.size)); clear hB) | (go_at_call 75; refine (HN.out _ HB4.out).mono ?_; rintro e w5 ⟨rfl, hB⟩; have HB5 := Lib.hid (HB4.out.trans (hB.mono HB4.out.size)); clear hB) | fail)
        go_ret2
        exact ⟨by rw [hO.out]; rfl, HB5.out⟩
    · rw [if_neg hGT] at hO
      have hGT2 : ¬ TT = G := fun h => hGT h.symm
      have e1 : (TT.toList == G.toList) = false := toList_ne hGT2
      have e2 : (TT.data.toList == G.data.toList) = false := data_ne hGT2
      clear hGT hGT2
      go_enter Tryd.func52, Tryd.ntmps52
      go_upto_region 10 with (first | (go_at_call 74; refine HKEYS.out.mono ?_; rintro e w1 ⟨rfl, hB⟩; have HB1 := Lib.hid hB; clear hB) | fail)
      refine wp_region_held_drew (S := (fun _ => True)) (by kernel_rfl) trivial (fun hHeld => ?_)
      refine' wpAnyH_take (i := 0) (v := ?v0C) rfl (by kernel_rfl) (by kernel_rfl) (by kernel_rfl) (fun _ _ _ h => h) (Or.inl ⟨by rfl, ?hy0C⟩) hHeld ?rest0C
      case hy0C => intro w hSw; (try dsimp only at hSw); go_simp; all_goals with_reducible rfl
      try simp only [sA, gA]
      refine' wpAnyH_take (i := 1) (v := ?v1C) rfl (by kernel_rfl) (by kernel_rfl) (by kernel_rfl) (fun _ _ _ h => h) (Or.inl ⟨by rfl, ?hy1C⟩) hHeld ?rest1C
      case hy1C => intro w hSw; (try dsimp only at hSw); go_simp; all_goals with_reducible rfl
      try simp only [sA, gA]
      refine' wpAnyH_take (i := 2) (v := ?v2C) rfl (by kernel_rfl) (by kernel_rfl) (by kernel_rfl) (fun _ _ _ h => h) (Or.inl ⟨by rfl, ?hy2C⟩) hHeld ?rest2C
      case hy2C => intro w hSw; (try dsimp only at hSw); go_simp; all_goals with_reducible rfl
      try simp only [sA, gA]
      refine' wpAnyH_take (i := 3) (v := ?v3C) rfl (by kernel_rfl) (by kernel_rfl) (by kernel_rfl) (fun _ _ _ h => h) (Or.inl ⟨by rfl, ?hy3C⟩) hHeld ?rest3C
      case hy3C => intro w hSw; (try dsimp only at hSw); go_simp; all_goals with_reducible rfl
      try simp only [sA, gA]
      refine' wpAnyH_take (i := 4) (v := ?v4C) rfl (by kernel_rfl) (by kernel_rfl) (by kernel_rfl) (fun _ _ _ h => h) (Or.inl ⟨by rfl, ?hy4C⟩) hHeld ?rest4C
      case hy4C => intro w hSw; (try dsimp only at hSw); go_simp; all_goals with_reducible rfl
      try simp only [sA, gA]
      refine' wpAnyH_take (i := 5) (v := ?v5C) rfl (by kernel_rfl) (by kernel_rfl) (by kernel_rfl) (fun _ _ _ h => h) (Or.inl ⟨by rfl, ?hy5C⟩) hHeld ?rest5C
      case hy5C => intro w hSw; (try dsimp only at hSw); go_simp; all_goals with_reducible rfl
      try simp only [sA, gA]
      refine' wpAnyH_take (i := 6) (v := ?v6C) rfl (by kernel_rfl) (by kernel_rfl) (by kernel_rfl) (fun _ _ _ h => h) (Or.inl ⟨by rfl, ?hy6C⟩) hHeld ?rest6C
      case hy6C => intro w hSw; (try dsimp only at hSw); go_simp; all_goals with_reducible rfl
      try simp only [sA, gA]
      refine' wpAnyH_take (i := 7) (v := ?v7C) rfl (by kernel_rfl) (by kernel_rfl) (by kernel_rfl) (fun _ _ _ h => h) (Or.inl ⟨by rfl, ?hy7C⟩) hHeld ?rest7C
      case hy7C => intro w hSw; (try dsimp only at hSw); go_simp; all_goals with_reducible rfl
      try simp only [sA, gA]
      refine' wpAnyH_take (i := 8) (v := ?v8C) rfl (by kernel_rfl) (by kernel_rfl) (by kernel_rfl) (fun _ _ _ h => h) (Or.inl ⟨by rfl, ?hy8C⟩) hHeld ?rest8C
      case hy8C => intro w hSw; (try dsimp only at hSw); go_simp; all_goals with_reducible rfl
      try simp only [sA, gA]
      refine wpAnyH_ready (rs := [9]) (by kernel_rfl) (by simp) ?_
      refine AllReadyH.cons rfl (fun K hK => ?_) AllReadyH.nil
      go_simp
      go_at_call 77
      refine (HT.out _ HB1.out.drew).mono ?_
      rintro e w3 ⟨rfl, hB⟩
      have HB3 := Lib.hid (HB1.out.drew.trans (hB.mono HB1.out.size))
      clear hB
      go_wp2_with fail
      refine hK.out _ _ ?_ (fun hHeld2 => ?_)
      · exact trivial
      clear hK K hHeld
      have hHeld := hHeld2
      clear hHeld2
      try simp only [sA, gA]
      refine' wpAnyH_take (i := 10) (v := ?v10C) rfl (by kernel_rfl) (by kernel_rfl) (by kernel_rfl) (fun _ _ _ h => h) (Or.inl ⟨by rfl, ?hy10C⟩) hHeld ?rest10C
      case hy10C => intro w hSw; (try dsimp only at hSw); go_simp; all_goals with_reducible rfl
      try simp only [sA, gA]
      refine wpAnyH_done (by kernel_rfl) ?_ _
      clear hHeld
      go_wp2_with fail
      go_ret2
      exact ⟨by rw [hO.out]; rfl, HB3.out⟩
theorem rcontext_any (w : World) (a b c : Nat) (ha : a < 9223372036854775808) (hb : b < 9223372036854775808) (hc : c < 9223372036854775808) :
    Calls Tryd.prog 50 #[.int .i64 a, .int .i64 b, .int .i64 c] w fun e w' => e = .returned (.string (txt (intsL [a, b, c]))) ∧ Below w.heap.size w w' := by
  have HI : Hid (Calls Tryd.prog 65 #[.slice (some ⟨w.heap.size, 0, none⟩) 3 3] (w.alloc (.cells #[.int .i64 (a : Int), .int .i64 (b : Int), .int .i64 (c : Int)] 3)) fun e w' => ∃ v, e = .returned v ∧ (convert 65 9 v).run Tryd.prog w' = .ok (.string (txt (intsL [a, b, c]))) w' ∧ Below w.heap.size w w') := by
    have hB := (Below.refl w.heap.size w).alloc (Nat.le_refl _) (.cells #[.int .i64 (a : Int), .int .i64 (b : Int), .int .i64 (c : Int)] 3)
    refine (rints_any _ w.heap.size 0 3 3 [a, b, c] rfl (by decide) (by intro x hx; simp at hx; rcases hx with rfl | rfl | rfl <;> assumption) (nats3 w a b c)).mono ?_
    rintro e w' ⟨v, rfl, hR, hB2⟩
    exact ⟨v, rfl, conv_row hR, hB.trans (hB2.mono hB.size)⟩
  clear ha hb hc
  generalize hT : txt (intsL [a, b, c]) = T at *
  have hTH := Lib.hid hT
  clear hT
  go_enter Tryd.func50, Tryd.ntmps50
  go_wp2_with (first | (go_at_call 65; refine HI.out.mono ?_; rintro e w1 ⟨v, rfl, hcv, hB⟩; have HB1 := Lib.hid hB; clear hB) | fail)
  go_ret
  exact ⟨by first | rfl | (rw [hTH.out]; rfl), HB1.out⟩
end Go.Proofs.YtbhagfdkipgggaaDoor
