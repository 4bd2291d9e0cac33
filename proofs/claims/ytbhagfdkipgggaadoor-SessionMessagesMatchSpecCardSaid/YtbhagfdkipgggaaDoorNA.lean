/-
  Layer 29 (session), the specification: Join.
  Layer 29 (session): the law of the handshake.
-/
import Derived.Test.YtbhagfdkipgggaaDoorMY
import Derived.Test.YtbhagfdkipgggaaDoorSanW4
namespace Go.Proofs.YtbhagfdkipgggaaDoor
open Go.RowKit Go.Shelf
attribute [local go_sem] Oper.semAt_some
theorem join_bad (s : ByteArray) (h : Hel) (l : Wel) (hb : ¬ (Opens s h.role h.nonce ∧ 1 ≤ l.sess ∧ l.sess ≤ 64 ∧ l.nonce.size = 16)) : joinP s h l = (noSes, 1) := by
  unfold joinP startP
  rw [if_neg hb]
  rfl
theorem join_good (s : ByteArray) (r : Nat) (tag nonce : ByteArray) (i : Nat) (n t : ByteArray) (hO : Opens s (r : Int) nonce ∧ 1 ≤ (i : Int) ∧ (i : Int) ≤ 64 ∧ n.size = 16) :
    joinP s ⟨(r : Int), nonce, tag⟩ ⟨(i : Int), n, t⟩ = if t = txt (welcomeL (skeyL (bl s) r i nonce n)) then (⟨(i : Int), (r : Int), 1, txt (skeyL (bl s) r i nonce n), 0, 0, 0⟩, 0) else (noSes, 8) := by
  have hst : startP s ⟨(r : Int), nonce, tag⟩ (i : Int) 1 n = (⟨(i : Int), (r : Int), 1, txt (skeyL (bl s) r i nonce n), 0, 0, 0⟩, txt (welcomeL (skeyL (bl s) r i nonce n)), 0) := by
    unfold startP
    rw [if_pos hO]
    rfl
  unfold joinP
  dsimp only
  rw [hst]
  dsimp only
  rw [if_pos rfl]
set_option maxRecDepth 100000 in
set_option maxHeartbeats 6400000 in
theorem rjoin_any (w : World) (s : ByteArray) (h : Hel) (l : Wel) (hK : KAt w 0) :
    Calls Tryd.prog 16 #[.string s, helV h, welV l] w fun e w' => e = .returned (.tuple #[sesV (joinP s h l).1, .int .i64 ((joinP s h l).2 : Nat)]) ∧ Below w.heap.size w w' := by
  obtain ⟨role, nonce, tag⟩ := h
  obtain ⟨wid, wn, wt⟩ := l
  have HO : Hid (∀ wx, Calls Tryd.prog 40 #[.string s, .int .i64 role, .string nonce] wx fun e w' => e = .returned (.bool (decide (Opens s role nonce))) ∧ wx = w') := fun wx => ropening_any wx s nonce role
  have HW : Hid (∀ (wx : World), Calls Tryd.prog 44 #[.int .i64 wid, .int .i64 1, .int .i64 64] wx fun e w' => e = .returned (.bool (decide (1 ≤ wid ∧ wid ≤ 64))) ∧ wx = w') := fun wx => rwithin_any wx wid 1 64
  by_cases hO : Opens s role nonce
  · rw [decide_eq_true hO] at HO
    by_cases h2 : 1 ≤ wid ∧ wid ≤ 64
    · rw [decide_eq_true h2] at HW
      by_cases h3 : wn.size = 16
      · obtain ⟨hs, r1, r2, hns⟩ := hO
        obtain ⟨r, rfl⟩ : ∃ r : Nat, role = (r : Int) := ⟨role.toNat, by omega⟩
        obtain ⟨i, rfl⟩ : ∃ i : Nat, wid = (i : Int) := ⟨wid.toNat, by omega⟩
        have HSK : Hid (∀ wx, Below w.heap.size w wx → Calls Tryd.prog 45 #[.string s, .agg #[.int .i64 (r : Int), .string nonce, .string tag], .int .i64 (i : Int), .string wn] wx fun e w' => e = .returned (.string (txt (skeyL (bl s) r i nonce wn))) ∧ Below wx.heap.size wx w') := fun wx hB => rskey_any wx s wn nonce tag r i (by omega) (by omega) hs h3 hns (hK.below hB)
        have hPg := join_good s r tag nonce i wn wt ⟨⟨hs, r1, r2, hns⟩, h2.1, h2.2, h3⟩
        obtain ⟨KS, hKe⟩ : ∃ K, txt (skeyL (bl s) r i nonce wn) = K := ⟨_, rfl⟩
        have hKb : bl KS = skeyL (bl s) r i nonce wn := by rw [← hKe]; rfl
        have hKs : KS.size = 32 := by rw [← bl_len, hKb]; exact deriveL_len _ _ _
        have HM : Hid (∀ wx, Below w.heap.size w wx → Calls Tryd.prog 46 #[.string KS, .string ⟨#[119, 101, 108, 99, 111, 109, 101]⟩] wx fun e w' => e = .returned (.string (txt (macL (bl KS) sWelcome))) ∧ Below wx.heap.size wx w') := fun wx hB => rmac_any wx KS ⟨#[119, 101, 108, 99, 111, 109, 101]⟩ (by omega) (by decide) (hK.below hB)
        have hms : Hid ((txt (macL (bl KS) sWelcome)).size = 32) := by unfold Hid; rw [txt_size, macL_len]
        obtain ⟨WT, hWT⟩ : ∃ T, txt (welcomeL (skeyL (bl s) r i nonce wn)) = T := ⟨_, rfl⟩
        have hxt : (txt (macL (bl KS) sWelcome)).extract 0 16 = WT := by
          have h := txt_head (macL (bl KS) sWelcome) 16
          rw [← hWT, ← hKb]
          exact h
        generalize txt (macL (bl KS) sWelcome) = M at *
        have n2 : (16 : Int) ≤ (M.size : Int) := by have := hms.out; omega
        have e4 : ((wn.size : Int) != 16) = false := by rw [h3]; rfl
        rw [hKe] at HSK hPg
        rw [hWT] at hPg
        rw [hPg]
        clear hPg hK hs r1 r2 hns hKe hKb hKs hms hWT h2 h3
        unfold helV helC welV welC
        by_cases hT : wt = WT
        · rw [if_pos hT]
          have e5 : (wt.toList == (M.extract 0 16).toList) = true := by rw [hxt, hT]; exact beq_self_eq_true _
          have e6 : (wt.data.toList == (M.extract 0 16).data.toList) = true := by rw [hxt, hT]; exact beq_self_eq_true _
          clear hT hxt
          unfold sesV sesC
          dsimp only
          go_enter Tryd.func16, Tryd.ntmps16
          go_upto_region 1 with fail
          refine world_is (P := fun W => Code.wp _ _ _ _ W) (fun W1 hW1 => ?_)
          have HHB : Hid (Blk W1 w.heap.size 23 #[.int .i64 (r : Int), .string nonce, .string tag]) := by unfold Hid; rw [← hW1]; exact ((Blk.new w _ _).alloc _).alloc _
          have HWB : Hid (Blk W1 (w.heap.size + 1) 25 #[.int .i64 (i : Int), .string wn, .string wt]) := by unfold Hid; rw [← hW1]; exact (blk_new2 _ _ _ _).alloc _
          have HR : Hid (Blk W1 (w.heap.size + 1 + 1) 32 zSes) := by unfold Hid; rw [← hW1]; exact blk_new3 _ _ _ _ _
          have HBel : Hid (Below w.heap.size w W1) := by unfold Hid; rw [← hW1]; exact ((Below.refl w.heap.size w).alloc (Nat.le_refl _) _).alloc (by rw [World.size_alloc]; exact Nat.le_succ _) _ |>.alloc (by rw [World.size_alloc, World.size_alloc]; omega) _
          clear hW1
          have c0 := HHB.out.cell 0
          have c1 := HHB.out.cell 1
          have d0 := HWB.out.cell 0
          have d1 := HWB.out.cell 1
          have c2 := HHB.out.cell 2
          go_upto_region 5 with (first
            | (go_at_call 40; refine (HO.out _).mono ?_; rintro e w9 ⟨rfl, rfl⟩)
            | (go_at_call 44; refine (HW.out _).mono ?_; rintro e w9 ⟨rfl, rfl⟩)
            | (go_at_call 45; refine (HSK.out _ HBel.out).mono ?_; rintro e w5 ⟨rfl, hB⟩; have HH5 := Lib.hid (HHB.out.below hB HHB.out.lt); have HW5 := Lib.hid (HWB.out.below hB HWB.out.lt); have HR5 := Lib.hid (HR.out.below hB HR.out.lt); have HB5 := Lib.hid (HBel.out.trans (hB.mono HBel.out.size)); clear hB)
            | fail)
          clear c0 c1 c2 d0 d1 HHB HWB HR HBel
          have HS : Hid (∀ wx, Below w5.heap.size w5 wx → wx.cell? ⟨w.heap.size + 1, 2, none⟩ = some (.string wt)) := fun wx hB => (HW5.out.below hB HW5.out.lt).cell 2
          refine wp_region_held_drew (S := (fun wx => wx.cell? ⟨w.heap.size + 1, 2, none⟩ = some (.string wt))) (by kernel_rfl) (HS.out _ (Below.refl _ w5).drew) (fun hHeld => ?_)
          refine' wpAnyH_take (i := 0) (v := ?v0A) rfl (by kernel_rfl) (by kernel_rfl) (by kernel_rfl) (fun _ _ _ h => h) (Or.inl ⟨by rfl, ?hy0A⟩) hHeld ?rest0A
          case hy0A =>
            intro w hSw
            try dsimp only at hSw
            go_simp
            all_goals with_reducible rfl
          try simp only [Act.put, List.setIfInBounds_toArray, List.set_cons_zero, List.set_cons_succ, List.getElem_toArray, List.getElem_cons_zero]
          refine' wpAnyH_take (i := 1) (v := ?v1A) rfl (by kernel_rfl) (by kernel_rfl) (by kernel_rfl) (fun _ _ _ h => h) (Or.inl ⟨by rfl, ?hy1A⟩) hHeld ?rest1A
          case hy1A =>
            intro w hSw
            try dsimp only at hSw
            go_simp
            all_goals with_reducible rfl
          try simp only [Act.put, List.setIfInBounds_toArray, List.set_cons_zero, List.set_cons_succ, List.getElem_toArray, List.getElem_cons_zero, List.getElem_cons_succ]
          refine' wpAnyH_take (i := 2) (v := ?v2A) rfl (by kernel_rfl) (by kernel_rfl) (by kernel_rfl) (fun _ _ _ h => h) (Or.inl ⟨by rfl, ?hy2A⟩) hHeld ?rest2A
          case hy2A =>
            intro w hSw
            try dsimp only at hSw
            go_simp
            all_goals with_reducible rfl
          try simp only [Act.put, List.setIfInBounds_toArray, List.set_cons_zero, List.set_cons_succ, List.getElem_toArray, List.getElem_cons_zero, List.getElem_cons_succ]
          refine wpAnyH_ready (rs := [3]) (by kernel_rfl) (by simp) ?_
          refine AllReadyH.cons rfl (fun K hK => ?_) AllReadyH.nil
          go_simp
          go_at_call 46
          refine (HM.out _ HB5.out.drew).mono ?_
          rintro e w8 ⟨rfl, hB⟩
          have HBc := Lib.hid ((Below.refl w5.heap.size w5).drew.trans hB)
          clear hB
          go_wp2_with fail
          refine hK.out _ _ ?_ (fun hHeld2 => ?_)
          · exact HS.out _ HBc.out
          clear hK K hHeld
          have hHeld := hHeld2
          clear hHeld2
          try simp only [Act.put, List.setIfInBounds_toArray, List.set_cons_zero, List.set_cons_succ, List.getElem_toArray, List.getElem_cons_zero, List.getElem_cons_succ]
          refine' wpAnyH_take (i := 4) (v := ?v4A) rfl (by kernel_rfl) (by kernel_rfl) (by kernel_rfl) (fun _ _ _ h => h) (Or.inl ⟨by rfl, ?hy4A⟩) hHeld ?rest4A
          case hy4A =>
            intro w hSw
            try dsimp only at hSw
            go_simp
            all_goals with_reducible rfl
          try simp only [Act.put, List.setIfInBounds_toArray, List.set_cons_zero, List.set_cons_succ, List.getElem_toArray, List.getElem_cons_zero, List.getElem_cons_succ]
          refine' wpAnyH_take (i := 5) (v := ?v5A) rfl (by kernel_rfl) (by kernel_rfl) (by kernel_rfl) (fun _ _ _ h => h) (Or.inl ⟨by rfl, ?hy5A⟩) hHeld ?rest5A
          case hy5A =>
            intro w hSw
            try dsimp only at hSw
            go_simp
            all_goals with_reducible rfl
          try simp only [Act.put, List.setIfInBounds_toArray, List.set_cons_zero, List.set_cons_succ, List.getElem_toArray, List.getElem_cons_zero, List.getElem_cons_succ]
          refine wpAnyH_done (by kernel_rfl) ?_ _
          clear hHeld
          have HH6 := Lib.hid (HH5.out.below HBc.out HH5.out.lt)
          have HW6 := Lib.hid (HW5.out.below HBc.out HW5.out.lt)
          have HR6 := Lib.hid (HR5.out.below HBc.out HR5.out.lt)
          have HB6 := Lib.hid (HB5.out.trans (HBc.out.mono HB5.out.size))
          clear HH5 HW5 HR5 HB5 HBc HS
          have c0 := HH6.out.cell 0
          have d0 := HW6.out.cell 0
          go_wp2_with (first
            | (refine wpList_store_mid rfl 32 _ _ rfl (w.heap.size + 1 + 1) 0 #[.int .i64 (i : Int), .int .i64 (r : Int), .int .i64 1, .string KS, .int .i64 0, .int .i64 0, .int .u64 0] rfl rfl (there_of_blk (o := 0) HR6.out (Nat.le_refl _)) infoSes (all_oneCell_toArray (sesC_one ⟨(i : Int), (r : Int), 1, KS, 0, 0, 0⟩)) ?_)
            | fail)
          have hL := blk_setWhole HR6.out (#[.int .i64 (i : Int), .int .i64 (r : Int), .int .i64 1, .string KS, .int .i64 0, .int .i64 0, .int .u64 0] : Array Value).toList rfl
          have hBL := below_setCells (g := (w.heap.size + 1 + 1)) (by omega) (#[.int .i64 (i : Int), .int .i64 (r : Int), .int .i64 1, .string KS, .int .i64 0, .int .i64 0, .int .u64 0] : Array Value).toList 0 _ HB6.out
          exact bodyPost_ret (v := .tuple #[.agg #[.int .i64 (i : Int), .int .i64 (r : Int), .int .i64 1, .string KS, .int .i64 0, .int .i64 0, .int .u64 0], .int .i64 0]) (results_ct (P := Tryd.prog) (p := 6) (q := 7) rfl _ _ (w.heap.size + 1 + 1) 32 #[.int .i64 (i : Int), .int .i64 (r : Int), .int .i64 1, .string KS, .int .i64 0, .int .i64 0, .int .u64 0] _ rfl hL Tryd.underlying32 rfl infoSes) rfl ⟨rfl, hBL⟩
        · rw [if_neg hT]
          have hT2 : ¬ wt = M.extract 0 16 := by rw [hxt]; exact hT
          have e5 : (wt.toList == (M.extract 0 16).toList) = false := toList_ne hT2
          have e6 : (wt.data.toList == (M.extract 0 16).data.toList) = false := data_ne hT2
          clear hT hxt hT2
          go_enter Tryd.func16, Tryd.ntmps16
          go_upto_region 1 with fail
          refine world_is (P := fun W => Code.wp _ _ _ _ W) (fun W1 hW1 => ?_)
          have HHB : Hid (Blk W1 w.heap.size 23 #[.int .i64 (r : Int), .string nonce, .string tag]) := by unfold Hid; rw [← hW1]; exact ((Blk.new w _ _).alloc _).alloc _
          have HWB : Hid (Blk W1 (w.heap.size + 1) 25 #[.int .i64 (i : Int), .string wn, .string wt]) := by unfold Hid; rw [← hW1]; exact (blk_new2 _ _ _ _).alloc _
          have HR : Hid (Blk W1 (w.heap.size + 1 + 1) 32 zSes) := by unfold Hid; rw [← hW1]; exact blk_new3 _ _ _ _ _
          have HBel : Hid (Below w.heap.size w W1) := by unfold Hid; rw [← hW1]; exact ((Below.refl w.heap.size w).alloc (Nat.le_refl _) _).alloc (by rw [World.size_alloc]; exact Nat.le_succ _) _ |>.alloc (by rw [World.size_alloc, World.size_alloc]; omega) _
          clear hW1
          have c0 := HHB.out.cell 0
          have c1 := HHB.out.cell 1
          have d0 := HWB.out.cell 0
          have d1 := HWB.out.cell 1
          have c2 := HHB.out.cell 2
          go_upto_region 5 with (first
            | (go_at_call 40; refine (HO.out _).mono ?_; rintro e w9 ⟨rfl, rfl⟩)
            | (go_at_call 44; refine (HW.out _).mono ?_; rintro e w9 ⟨rfl, rfl⟩)
            | (go_at_call 45; refine (HSK.out _ HBel.out).mono ?_; rintro e w5 ⟨rfl, hB⟩; have HH5 := Lib.hid (HHB.out.below hB HHB.out.lt); have HW5 := Lib.hid (HWB.out.below hB HWB.out.lt); have HR5 := Lib.hid (HR.out.below hB HR.out.lt); have HB5 := Lib.hid (HBel.out.trans (hB.mono HBel.out.size)); clear hB)
            | fail)
          clear c0 c1 c2 d0 d1 HHB HWB HR HBel
          have HS : Hid (∀ wx, Below w5.heap.size w5 wx → wx.cell? ⟨w.heap.size + 1, 2, none⟩ = some (.string wt)) := fun wx hB => (HW5.out.below hB HW5.out.lt).cell 2
          refine wp_region_held_drew (S := (fun wx => wx.cell? ⟨w.heap.size + 1, 2, none⟩ = some (.string wt))) (by kernel_rfl) (HS.out _ (Below.refl _ w5).drew) (fun hHeld => ?_)
          refine' wpAnyH_take (i := 0) (v := ?v0C) rfl (by kernel_rfl) (by kernel_rfl) (by kernel_rfl) (fun _ _ _ h => h) (Or.inl ⟨by rfl, ?hy0C⟩) hHeld ?rest0C
          case hy0C =>
            intro w hSw
            try dsimp only at hSw
            go_simp
            all_goals with_reducible rfl
          try simp only [Act.put, List.setIfInBounds_toArray, List.set_cons_zero, List.set_cons_succ, List.getElem_toArray, List.getElem_cons_zero]
          refine' wpAnyH_take (i := 1) (v := ?v1C) rfl (by kernel_rfl) (by kernel_rfl) (by kernel_rfl) (fun _ _ _ h => h) (Or.inl ⟨by rfl, ?hy1C⟩) hHeld ?rest1C
          case hy1C =>
            intro w hSw
            try dsimp only at hSw
            go_simp
            all_goals with_reducible rfl
          try simp only [Act.put, List.setIfInBounds_toArray, List.set_cons_zero, List.set_cons_succ, List.getElem_toArray, List.getElem_cons_zero, List.getElem_cons_succ]
          refine' wpAnyH_take (i := 2) (v := ?v2C) rfl (by kernel_rfl) (by kernel_rfl) (by kernel_rfl) (fun _ _ _ h => h) (Or.inl ⟨by rfl, ?hy2C⟩) hHeld ?rest2C
          case hy2C =>
            intro w hSw
            try dsimp only at hSw
            go_simp
            all_goals with_reducible rfl
          try simp only [Act.put, List.setIfInBounds_toArray, List.set_cons_zero, List.set_cons_succ, List.getElem_toArray, List.getElem_cons_zero, List.getElem_cons_succ]
          refine wpAnyH_ready (rs := [3]) (by kernel_rfl) (by simp) ?_
          refine AllReadyH.cons rfl (fun K hK => ?_) AllReadyH.nil
          go_simp
          go_at_call 46
          refine (HM.out _ HB5.out.drew).mono ?_
          rintro e w8 ⟨rfl, hB⟩
          have HBc := Lib.hid ((Below.refl w5.heap.size w5).drew.trans hB)
          clear hB
          go_wp2_with fail
          refine hK.out _ _ ?_ (fun hHeld2 => ?_)
          · exact HS.out _ HBc.out
          clear hK K hHeld
          have hHeld := hHeld2
          clear hHeld2
          try simp only [Act.put, List.setIfInBounds_toArray, List.set_cons_zero, List.set_cons_succ, List.getElem_toArray, List.getElem_cons_zero, List.getElem_cons_succ]
          refine' wpAnyH_take (i := 4) (v := ?v4C) rfl (by kernel_rfl) (by kernel_rfl) (by kernel_rfl) (fun _ _ _ h => h) (Or.inl ⟨by rfl, ?hy4C⟩) hHeld ?rest4C
          case hy4C =>
            intro w hSw
            try dsimp only at hSw
            go_simp
            all_goals with_reducible rfl
          try simp only [Act.put, List.setIfInBounds_toArray, List.set_cons_zero, List.set_cons_succ, List.getElem_toArray, List.getElem_cons_zero, List.getElem_cons_succ]
          refine' wpAnyH_take (i := 5) (v := ?v5C) rfl (by kernel_rfl) (by kernel_rfl) (by kernel_rfl) (fun _ _ _ h => h) (Or.inl ⟨by rfl, ?hy5C⟩) hHeld ?rest5C
          case hy5C =>
            intro w hSw
            try dsimp only at hSw
            go_simp
            all_goals with_reducible rfl
          try simp only [Act.put, List.setIfInBounds_toArray, List.set_cons_zero, List.set_cons_succ, List.getElem_toArray, List.getElem_cons_zero, List.getElem_cons_succ]
          refine wpAnyH_done (by kernel_rfl) ?_ _
          clear hHeld
          have HH6 := Lib.hid (HH5.out.below HBc.out HH5.out.lt)
          have HW6 := Lib.hid (HW5.out.below HBc.out HW5.out.lt)
          have HR6 := Lib.hid (HR5.out.below HBc.out HR5.out.lt)
          have HB6 := Lib.hid (HB5.out.trans (HBc.out.mono HB5.out.size))
          clear HH5 HW5 HR5 HB5 HBc HS
          have c0 := HH6.out.cell 0
          have d0 := HW6.out.cell 0
          go_wp2_with (first
            | (refine wpList_store_mid rfl 32 _ _ rfl (w.heap.size + 1 + 1) 0 zSes rfl rfl (there_of_blk (o := 0) HR6.out (Nat.le_refl _)) infoSes zSes_one ?_)
            | fail)
          have hL := blk_setWhole HR6.out (zSes : Array Value).toList rfl
          have hBL := below_setCells (g := (w.heap.size + 1 + 1)) (by omega) (zSes : Array Value).toList 0 _ HB6.out
          exact bodyPost_ret (v := .tuple #[.agg zSes, .int .i64 8]) (results_ct (P := Tryd.prog) (p := 6) (q := 7) rfl _ _ (w.heap.size + 1 + 1) 32 zSes _ rfl hL Tryd.underlying32 rfl infoSes) rfl ⟨rfl, hBL⟩
      · have e4 : ((wn.size : Int) != 16) = true := by rw [bne_iff_ne]; omega
        have hP : joinP s ⟨role, nonce, tag⟩ ⟨wid, wn, wt⟩ = (noSes, 1) := join_bad s ⟨role, nonce, tag⟩ ⟨wid, wn, wt⟩ (fun h => h3 h.2.2.2)
        rw [hP]
        clear hP hK
        unfold helV helC welV welC
        go_enter Tryd.func16, Tryd.ntmps16
        go_upto_region 1 with fail
        refine world_is (P := fun W => Code.wp _ _ _ _ W) (fun W1 hW1 => ?_)
        have HHB : Hid (Blk W1 w.heap.size 23 #[.int .i64 role, .string nonce, .string tag]) := by unfold Hid; rw [← hW1]; exact ((Blk.new w _ _).alloc _).alloc _
        have HWB : Hid (Blk W1 (w.heap.size + 1) 25 #[.int .i64 wid, .string wn, .string wt]) := by unfold Hid; rw [← hW1]; exact (blk_new2 _ _ _ _).alloc _
        have HR : Hid (Blk W1 (w.heap.size + 1 + 1) 32 zSes) := by unfold Hid; rw [← hW1]; exact blk_new3 _ _ _ _ _
        have HBel : Hid (Below w.heap.size w W1) := by unfold Hid; rw [← hW1]; exact ((Below.refl w.heap.size w).alloc (Nat.le_refl _) _).alloc (by rw [World.size_alloc]; exact Nat.le_succ _) _ |>.alloc (by rw [World.size_alloc, World.size_alloc]; omega) _
        clear hW1
        have c0 := HHB.out.cell 0
        have c1 := HHB.out.cell 1
        have d0 := HWB.out.cell 0
        have d1 := HWB.out.cell 1
        go_wp2_with (first
          | (go_at_call 40; refine (HO.out _).mono ?_; rintro e w9 ⟨rfl, rfl⟩)
          | (go_at_call 44; refine (HW.out _).mono ?_; rintro e w9 ⟨rfl, rfl⟩)
          | (refine wpList_store_mid rfl 32 _ _ rfl (w.heap.size + 1 + 1) 0 zSes rfl rfl (there_of_blk (o := 0) HR.out (Nat.le_refl _)) infoSes zSes_one ?_)
          | fail)
        have hL := blk_setWhole HR.out (zSes : Array Value).toList rfl
        have hBL := below_setCells (g := (w.heap.size + 1 + 1)) (by omega) (zSes : Array Value).toList 0 _ HBel.out
        exact bodyPost_ret (v := .tuple #[.agg zSes, .int .i64 1]) (results_ct (P := Tryd.prog) (p := 6) (q := 7) rfl _ _ (w.heap.size + 1 + 1) 32 zSes _ rfl hL Tryd.underlying32 rfl infoSes) rfl ⟨rfl, hBL⟩
    · rw [decide_eq_false h2] at HW
      have hP : joinP s ⟨role, nonce, tag⟩ ⟨wid, wn, wt⟩ = (noSes, 1) := join_bad s ⟨role, nonce, tag⟩ ⟨wid, wn, wt⟩ (fun h => h2 ⟨h.2.1, h.2.2.1⟩)
      rw [hP]
      clear hP hK
      unfold helV helC welV welC
      go_enter Tryd.func16, Tryd.ntmps16
      go_upto_region 1 with fail
      refine world_is (P := fun W => Code.wp _ _ _ _ W) (fun W1 hW1 => ?_)
      have HHB : Hid (Blk W1 w.heap.size 23 #[.int .i64 role, .string nonce, .string tag]) := by unfold Hid; rw [← hW1]; exact ((Blk.new w _ _).alloc _).alloc _
      have HWB : Hid (Blk W1 (w.heap.size + 1) 25 #[.int .i64 wid, .string wn, .string wt]) := by unfold Hid; rw [← hW1]; exact (blk_new2 _ _ _ _).alloc _
      have HR : Hid (Blk W1 (w.heap.size + 1 + 1) 32 zSes) := by unfold Hid; rw [← hW1]; exact blk_new3 _ _ _ _ _
      have HBel : Hid (Below w.heap.size w W1) := by unfold Hid; rw [← hW1]; exact ((Below.refl w.heap.size w).alloc (Nat.le_refl _) _).alloc (by rw [World.size_alloc]; exact Nat.le_succ _) _ |>.alloc (by rw [World.size_alloc, World.size_alloc]; omega) _
      clear hW1
      have c0 := HHB.out.cell 0
      have c1 := HHB.out.cell 1
      have d0 := HWB.out.cell 0
      have d1 := HWB.out.cell 1
      go_wp2_with (first
        | (go_at_call 40; refine (HO.out _).mono ?_; rintro e w9 ⟨rfl, rfl⟩)
        | (go_at_call 44; refine (HW.out _).mono ?_; rintro e w9 ⟨rfl, rfl⟩)
        | (refine wpList_store_mid rfl 32 _ _ rfl (w.heap.size + 1 + 1) 0 zSes rfl rfl (there_of_blk (o := 0) HR.out (Nat.le_refl _)) infoSes zSes_one ?_)
        | fail)
      have hL := blk_setWhole HR.out (zSes : Array Value).toList rfl
      have hBL := below_setCells (g := (w.heap.size + 1 + 1)) (by omega) (zSes : Array Value).toList 0 _ HBel.out
      exact bodyPost_ret (v := .tuple #[.agg zSes, .int .i64 1]) (results_ct (P := Tryd.prog) (p := 6) (q := 7) rfl _ _ (w.heap.size + 1 + 1) 32 zSes _ rfl hL Tryd.underlying32 rfl infoSes) rfl ⟨rfl, hBL⟩
  · rw [decide_eq_false hO] at HO
    have hP : joinP s ⟨role, nonce, tag⟩ ⟨wid, wn, wt⟩ = (noSes, 1) := join_bad s ⟨role, nonce, tag⟩ ⟨wid, wn, wt⟩ (fun h => hO h.1)
    rw [hP]
    clear hP hK
    unfold helV helC welV welC
    go_enter Tryd.func16, Tryd.ntmps16
    go_upto_region 1 with fail
    refine world_is (P := fun W => Code.wp _ _ _ _ W) (fun W1 hW1 => ?_)
    have HHB : Hid (Blk W1 w.heap.size 23 #[.int .i64 role, .string nonce, .string tag]) := by unfold Hid; rw [← hW1]; exact ((Blk.new w _ _).alloc _).alloc _
    have HWB : Hid (Blk W1 (w.heap.size + 1) 25 #[.int .i64 wid, .string wn, .string wt]) := by unfold Hid; rw [← hW1]; exact (blk_new2 _ _ _ _).alloc _
    have HR : Hid (Blk W1 (w.heap.size + 1 + 1) 32 zSes) := by unfold Hid; rw [← hW1]; exact blk_new3 _ _ _ _ _
    have HBel : Hid (Below w.heap.size w W1) := by unfold Hid; rw [← hW1]; exact ((Below.refl w.heap.size w).alloc (Nat.le_refl _) _).alloc (by rw [World.size_alloc]; exact Nat.le_succ _) _ |>.alloc (by rw [World.size_alloc, World.size_alloc]; omega) _
    clear hW1
    have c0 := HHB.out.cell 0
    have c1 := HHB.out.cell 1
    have d0 := HWB.out.cell 0
    have d1 := HWB.out.cell 1
    go_wp2_with (first
      | (go_at_call 40; refine (HO.out _).mono ?_; rintro e w9 ⟨rfl, rfl⟩)
      | (go_at_call 44; refine (HW.out _).mono ?_; rintro e w9 ⟨rfl, rfl⟩)
      | (refine wpList_store_mid rfl 32 _ _ rfl (w.heap.size + 1 + 1) 0 zSes rfl rfl (there_of_blk (o := 0) HR.out (Nat.le_refl _)) infoSes zSes_one ?_)
      | fail)
    have hL := blk_setWhole HR.out (zSes : Array Value).toList rfl
    have hBL := below_setCells (g := (w.heap.size + 1 + 1)) (by omega) (zSes : Array Value).toList 0 _ HBel.out
    exact bodyPost_ret (v := .tuple #[.agg zSes, .int .i64 1]) (results_ct (P := Tryd.prog) (p := 6) (q := 7) rfl _ _ (w.heap.size + 1 + 1) 32 zSes _ rfl hL Tryd.underlying32 rfl infoSes) rfl ⟨rfl, hBL⟩
end Go.Proofs.YtbhagfdkipgggaaDoor
namespace Go.Proofs.YtbhagfdkipgggaaDoor
open Go.RowKit Go.Shelf
attribute [local go_sem] Oper.semAt_some
/-- An old block behind the making and the filling of a new one. -/
theorem blk_alloc_sets {w : World} {g : Nat} {t : TypeId} {cs : Array Value} {o : Obj} {l : List Value} (h : Blk w g t cs) : Blk ((w.alloc o).setCells w.heap.size 0 l) g t cs := by
  have hB : Below w.heap.size w ((w.alloc o).setCells w.heap.size 0 l) := below_setCells (Nat.le_refl _) _ 0 _ ((Below.refl w.heap.size w).alloc (Nat.le_refl _) _)
  exact h.below hB h.lt
set_option maxRecDepth 100000 in
set_option maxHeartbeats 6400000 in
theorem law_handshake (w : World) (sec : ByteArray) (h : Hel) (wl : Wel) (hK : KAt w 1) (hK2 : KAt w 0) :
    Calls Tryd.prog 3 #[.string sec, helV h, welV wl] w fun e w' => e = .returned (.bool true) ∧ Below w.heap.size w w' := by
  have HSA : Hid (∀ wx, Below w.heap.size w wx → Calls Tryd.prog 10 #[] wx fun e w' => e = .returned (.bool true) ∧ Below wx.heap.size wx w') := fun wx hB => sanity_any wx (hK.below hB)
  by_cases z0 : sec.size ≤ 100
  · by_cases z1 : h.nonce.size ≤ 100
    · by_cases z2 : wl.nonce.size ≤ 100
      · by_cases z3 : h.tag.size ≤ 100
        · by_cases z4 : wl.tag.size ≤ 100
          · have HG : Hid (∀ wx, Below w.heap.size w wx → Calls Tryd.prog 11 #[.string sec, .int .i64 h.role, .string h.nonce] wx fun e w' => e = .returned (.tuple #[helV (greetP sec h.role h.nonce).1, .int .i64 ((greetP sec h.role h.nonce).2 : Nat)]) ∧ Below wx.heap.size wx w') := fun wx hB => greet_any wx sec h.nonce h.role (hK.below hB)
            have HRG : Hid (∀ wx, Below w.heap.size w wx → Calls Tryd.prog 12 #[.string sec, .int .i64 h.role, .string h.nonce] wx fun e w' => e = .returned (.tuple #[helV (greetP sec h.role h.nonce).1, .int .i64 ((greetP sec h.role h.nonce).2 : Nat)]) ∧ Below wx.heap.size wx w') := fun wx hB => rgreet_any wx sec h.nonce h.role (hK2.below hB)
            have HA : Hid (∀ wx, Below w.heap.size w wx → Calls Tryd.prog 13 #[.string sec, helV h, .int .i64 wl.sess, .string wl.nonce] wx fun e w' => e = .returned (.tuple #[sesV (acceptP sec h wl.sess wl.nonce).1, welV (acceptP sec h wl.sess wl.nonce).2.1, .int .i64 ((acceptP sec h wl.sess wl.nonce).2.2 : Nat)]) ∧ Below wx.heap.size wx w') := fun wx hB => accept_any wx sec wl.nonce h wl.sess (hK.below hB)
            have HRA : Hid (∀ wx, Below w.heap.size w wx → Calls Tryd.prog 14 #[.string sec, helV h, .int .i64 wl.sess, .string wl.nonce] wx fun e w' => e = .returned (accV (acceptP sec h wl.sess wl.nonce)) ∧ Below wx.heap.size wx w') := fun wx hB => raccept_any wx sec wl.nonce h wl.sess (hK2.below hB)
            have HJ : Hid (∀ wx, Below w.heap.size w wx → Calls Tryd.prog 15 #[.string sec, helV h, welV wl] wx fun e w' => e = .returned (.tuple #[sesV (joinP sec h wl).1, .int .i64 ((joinP sec h wl).2 : Nat)]) ∧ Below wx.heap.size wx w') := fun wx hB => joinS_any wx sec h wl (hK.below hB)
            have HRJ : Hid (∀ wx, Below w.heap.size w wx → Calls Tryd.prog 16 #[.string sec, helV h, welV wl] wx fun e w' => e = .returned (.tuple #[sesV (joinP sec h wl).1, .int .i64 ((joinP sec h wl).2 : Nat)]) ∧ Below wx.heap.size wx w') := fun wx hB => rjoin_any wx sec h wl (hK2.below hB)
            have d0 : decide ((100 : Int) < (sec.size : Int)) = false := decide_eq_false (by omega)
            have d1 : decide ((100 : Int) < (h.nonce.size : Int)) = false := decide_eq_false (by omega)
            have d2 : decide ((100 : Int) < (wl.nonce.size : Int)) = false := decide_eq_false (by omega)
            have d3 : decide ((100 : Int) < (h.tag.size : Int)) = false := decide_eq_false (by omega)
            have d4 : decide ((100 : Int) < (wl.tag.size : Int)) = false := decide_eq_false (by omega)
            clear hK hK2 z0 z1 z2 z3 z4
            generalize greetP sec h.role h.nonce = R1 at *
            generalize acceptP sec h wl.sess wl.nonce = R2 at *
            generalize joinP sec h wl = R3 at *
            obtain ⟨⟨a0, a1, a2⟩, E1⟩ := R1
            obtain ⟨⟨s0, s1, s2, s3, s4, s5, s6⟩, ⟨b0, b1, b2⟩, E2⟩ := R2
            obtain ⟨⟨j0, j1, j2, j3, j4, j5, j6⟩, E3⟩ := R3
            obtain ⟨hrole, hnonce, htag⟩ := h
            obtain ⟨wsess, wnonce, wtag⟩ := wl
            unfold helV helC at HG HRG HA
            unfold sesV sesC welV welC at HA
            unfold accV accC sesC welC helV helC at HRA
            unfold sesV sesC helV helC welV welC at HJ HRJ
            unfold helV helC welV welC
            simp only [List.cons_append, List.nil_append] at HRA
            dsimp only at HG HRG HA HRA HJ HRJ d0 d1 d2 d3 d4 ⊢
            go_enter Tryd.func3, Tryd.ntmps3
            go_upto_region 1 with fail
            refine world_is (P := fun W => Code.wp _ _ _ _ W) (fun W1 hW1 => ?_)
            have Xh1 : Hid (Blk W1 w.heap.size 23 #[.int .i64 hrole, .string hnonce, .string htag]) := by unfold Hid; rw [← hW1]; exact (Blk.new w _ _).alloc _
            have Xw1 : Hid (Blk W1 (w.heap.size + 1) 25 #[.int .i64 wsess, .string wnonce, .string wtag]) := by unfold Hid; rw [← hW1]; exact blk_new2 _ _ _ _
            have HB1 : Hid (Below w.heap.size w W1) := by unfold Hid; rw [← hW1]; exact ((Below.refl w.heap.size w).alloc (Nat.le_refl _) _).alloc (by rw [World.size_alloc]; exact Nat.le_succ _) _
            clear hW1
            obtain ⟨gw, egw⟩ : ∃ g, w.heap.size + 1 = g := ⟨_, rfl⟩
            rw [egw] at Xw1 ⊢
            clear egw
            go_upto_region 4 with (first | (go_at_call 10; refine (HSA.out _ HB1.out).mono ?_; rintro e w1 ⟨rfl, hB⟩; have Xh2 := Lib.hid (Xh1.out.below hB Xh1.out.lt); have Xw2 := Lib.hid (Xw1.out.below hB Xw1.out.lt); have HB2 := Lib.hid (HB1.out.trans (hB.mono HB1.out.size)); have hc1 := Xh2.out.cell 1; have hc2 := Xh2.out.cell 2; have wc1 := Xw2.out.cell 1; have wc2 := Xw2.out.cell 2; clear hB) | fail)
            clear hc1 hc2 wc1 wc2 Xh1 Xw1 HB1 HSA
            have hc0 := Xh2.out.cell 0; have hc1 := Xh2.out.cell 1
            go_upto_region 5 with (first | (go_at_call 11; refine (HG.out _ HB2.out).mono ?_; rintro e u2 ⟨rfl, hB⟩; have Yh := Lib.hid (Xh2.out.below hB Xh2.out.lt); have Yw := Lib.hid (Xw2.out.below hB Xw2.out.lt); have HY := Lib.hid (HB2.out.trans (hB.mono HB2.out.size)); clear hB) | fail)
            refine world_is (P := fun W => Code.wp _ _ _ _ W) (fun W3 hW => ?_)
            have Xh3 : Hid (Blk W3 w.heap.size 23 #[.int .i64 hrole, .string hnonce, .string htag]) := by unfold Hid; rw [← hW]; exact (Yh.out.alloc _)
            have Xw3 : Hid (Blk W3 gw 25 #[.int .i64 wsess, .string wnonce, .string wtag]) := by unfold Hid; rw [← hW]; exact (Yw.out.alloc _)
            have Xa3 : Hid (Blk W3 u2.heap.size 23 #[.int .i64 a0, .string a1, .string a2]) := by unfold Hid; rw [← hW]; exact Blk.new _ _ _
            have HB3 : Hid (Below w.heap.size w W3) := by unfold Hid; rw [← hW]; exact HY.out.alloc HY.out.size _
            clear hW HY HB2 Xh2 Yh Xw2 Yw hc0 hc1
            obtain ⟨ga, eg⟩ : ∃ g, u2.heap.size = g := ⟨_, rfl⟩
            rw [eg] at Xa3 ⊢
            clear eg
            have hc0 := Xh3.out.cell 0; have hc1 := Xh3.out.cell 1
            go_upto_region 6 with (first | (go_at_call 12; refine (HRG.out _ HB3.out).mono ?_; rintro e u3 ⟨rfl, hB⟩; have Yh := Lib.hid (Xh3.out.below hB Xh3.out.lt); have Yw := Lib.hid (Xw3.out.below hB Xw3.out.lt); have Ya := Lib.hid (Xa3.out.below hB Xa3.out.lt); have HY := Lib.hid (HB3.out.trans (hB.mono HB3.out.size)); clear hB) | fail)
            refine world_is (P := fun W => Code.wp _ _ _ _ W) (fun W4 hW => ?_)
            have Xh4 : Hid (Blk W4 w.heap.size 23 #[.int .i64 hrole, .string hnonce, .string htag]) := by unfold Hid; rw [← hW]; exact (Yh.out.alloc _)
            have Xw4 : Hid (Blk W4 gw 25 #[.int .i64 wsess, .string wnonce, .string wtag]) := by unfold Hid; rw [← hW]; exact (Yw.out.alloc _)
            have Xa4 : Hid (Blk W4 ga 23 #[.int .i64 a0, .string a1, .string a2]) := by unfold Hid; rw [← hW]; exact (Ya.out.alloc _)
            have Xb4 : Hid (Blk W4 u3.heap.size 23 #[.int .i64 a0, .string a1, .string a2]) := by unfold Hid; rw [← hW]; exact Blk.new _ _ _
            have HB4 : Hid (Below w.heap.size w W4) := by unfold Hid; rw [← hW]; exact HY.out.alloc HY.out.size _
            clear hW HY HB3 Xh3 Yh Xw3 Yw Xa3 Ya hc0 hc1
            obtain ⟨gb, eg⟩ : ∃ g, u3.heap.size = g := ⟨_, rfl⟩
            rw [eg] at Xb4 ⊢
            clear eg
            have hc0 := Xh4.out.cell 0; have hc1 := Xh4.out.cell 1; have hc2 := Xh4.out.cell 2
            have wc0 := Xw4.out.cell 0; have wc1 := Xw4.out.cell 1
            go_upto_region 7 with (first | (go_at_call 13; refine (HA.out _ HB4.out).mono ?_; rintro e u4 ⟨rfl, hB⟩; have Yh := Lib.hid (Xh4.out.below hB Xh4.out.lt); have Yw := Lib.hid (Xw4.out.below hB Xw4.out.lt); have Ya := Lib.hid (Xa4.out.below hB Xa4.out.lt); have Yb := Lib.hid (Xb4.out.below hB Xb4.out.lt); have HY := Lib.hid (HB4.out.trans (hB.mono HB4.out.size)); clear hB) | fail)
            refine world_is (P := fun W => Code.wp _ _ _ _ W) (fun W5 hW => ?_)
            have Xh5 : Hid (Blk W5 w.heap.size 23 #[.int .i64 hrole, .string hnonce, .string htag]) := by unfold Hid; rw [← hW]; exact ((Yh.out.alloc _).alloc _)
            have Xw5 : Hid (Blk W5 gw 25 #[.int .i64 wsess, .string wnonce, .string wtag]) := by unfold Hid; rw [← hW]; exact ((Yw.out.alloc _).alloc _)
            have Xa5 : Hid (Blk W5 ga 23 #[.int .i64 a0, .string a1, .string a2]) := by unfold Hid; rw [← hW]; exact ((Ya.out.alloc _).alloc _)
            have Xb5 : Hid (Blk W5 gb 23 #[.int .i64 a0, .string a1, .string a2]) := by unfold Hid; rw [← hW]; exact ((Yb.out.alloc _).alloc _)
            have Xs5 : Hid (Blk W5 u4.heap.size 32 #[.int .i64 s0, .int .i64 s1, .int .i64 s2, .string s3, .int .i64 s4, .int .i64 s5, .int .u64 (s6 : Int)]) := by unfold Hid; rw [← hW]; exact (Blk.new _ _ _).alloc _
            have Xx5 : Hid (Blk W5 (u4.heap.size + 1) 25 #[.int .i64 b0, .string b1, .string b2]) := by unfold Hid; rw [← hW]; exact blk_new2 _ _ _ _
            have HB5 : Hid (Below w.heap.size w W5) := by unfold Hid; rw [← hW]; exact (HY.out.alloc HY.out.size _).alloc (by rw [World.size_alloc]; exact Nat.le_trans HY.out.size (Nat.le_succ _)) _
            clear hW HY HB4 Xh4 Yh Xw4 Yw Xa4 Ya Xb4 Yb hc0 hc1 hc2 wc0 wc1
            obtain ⟨gx, eg⟩ : ∃ g, u4.heap.size + 1 = g := ⟨_, rfl⟩
            rw [eg] at Xx5 ⊢
            clear eg
            obtain ⟨gs, eg⟩ : ∃ g, u4.heap.size = g := ⟨_, rfl⟩
            rw [eg] at Xs5 ⊢
            clear eg
            have hc0 := Xh5.out.cell 0; have hc1 := Xh5.out.cell 1; have hc2 := Xh5.out.cell 2
            have wc0 := Xw5.out.cell 0; have wc1 := Xw5.out.cell 1
            go_upto_region 8 with (first | (go_at_call 14; refine (HRA.out _ HB5.out).mono ?_; rintro e u5 ⟨rfl, hB⟩; have Yh := Lib.hid (Xh5.out.below hB Xh5.out.lt); have Yw := Lib.hid (Xw5.out.below hB Xw5.out.lt); have Ya := Lib.hid (Xa5.out.below hB Xa5.out.lt); have Yb := Lib.hid (Xb5.out.below hB Xb5.out.lt); have Ys := Lib.hid (Xs5.out.below hB Xs5.out.lt); have Yx := Lib.hid (Xx5.out.below hB Xx5.out.lt); have HY := Lib.hid (HB5.out.trans (hB.mono HB5.out.size)); clear hB) | (refine wpList_store_mid rfl 36 _ _ rfl u5.heap.size 0 #[.int .i64 s0, .int .i64 s1, .int .i64 s2, .string s3, .int .i64 s4, .int .i64 s5, .int .u64 (s6 : Int), .int .i64 b0, .string b1, .string b2, .int .i64 (E2 : Int)] rfl rfl (there_of_blk (o := 0) (Blk.new u5 36 zAcc) (Nat.le_refl _)) infoAcc (all_oneCell_toArray (accC_one (⟨s0, s1, s2, s3, s4, s5, s6⟩, ⟨b0, b1, b2⟩, E2))) ?_) | fail)
            try simp only [Act.put]
            refine world_is (P := fun W => Code.wp _ _ _ _ W) (fun W6 hW => ?_)
            have Xh6 : Hid (Blk W6 w.heap.size 23 #[.int .i64 hrole, .string hnonce, .string htag]) := by unfold Hid; rw [← hW]; exact blk_alloc_sets Yh.out
            have Xw6 : Hid (Blk W6 gw 25 #[.int .i64 wsess, .string wnonce, .string wtag]) := by unfold Hid; rw [← hW]; exact blk_alloc_sets Yw.out
            have Xa6 : Hid (Blk W6 ga 23 #[.int .i64 a0, .string a1, .string a2]) := by unfold Hid; rw [← hW]; exact blk_alloc_sets Ya.out
            have Xb6 : Hid (Blk W6 gb 23 #[.int .i64 a0, .string a1, .string a2]) := by unfold Hid; rw [← hW]; exact blk_alloc_sets Yb.out
            have Xs6 : Hid (Blk W6 gs 32 #[.int .i64 s0, .int .i64 s1, .int .i64 s2, .string s3, .int .i64 s4, .int .i64 s5, .int .u64 (s6 : Int)]) := by unfold Hid; rw [← hW]; exact blk_alloc_sets Ys.out
            have Xx6 : Hid (Blk W6 gx 25 #[.int .i64 b0, .string b1, .string b2]) := by unfold Hid; rw [← hW]; exact blk_alloc_sets Yx.out
            have Xr6 : Hid (Blk W6 u5.heap.size 36 #[.int .i64 s0, .int .i64 s1, .int .i64 s2, .string s3, .int .i64 s4, .int .i64 s5, .int .u64 (s6 : Int), .int .i64 b0, .string b1, .string b2, .int .i64 (E2 : Int)]) := by unfold Hid; rw [← hW]; exact blk_setWhole (Blk.new u5 36 zAcc) (#[.int .i64 s0, .int .i64 s1, .int .i64 s2, .string s3, .int .i64 s4, .int .i64 s5, .int .u64 (s6 : Int), .int .i64 b0, .string b1, .string b2, .int .i64 (E2 : Int)] : Array Value).toList rfl
            have HB6 : Hid (Below w.heap.size w W6) := by unfold Hid; rw [← hW]; exact below_setCells (g := u5.heap.size) HY.out.size _ 0 _ (HY.out.alloc HY.out.size _)
            clear hW HY HB5 Xh5 Yh Xw5 Yw Xa5 Ya Xb5 Yb Xs5 Ys Xx5 Yx hc0 hc1 hc2 wc0 wc1
            obtain ⟨gr, eg⟩ : ∃ g, u5.heap.size = g := ⟨_, rfl⟩
            rw [eg] at Xr6 ⊢
            clear eg
            have hc0 := Xh6.out.cell 0; have hc1 := Xh6.out.cell 1; have hc2 := Xh6.out.cell 2
            have wc0 := Xw6.out.cell 0; have wc1 := Xw6.out.cell 1; have wc2 := Xw6.out.cell 2
            go_upto_region 9 with (first | (go_at_call 15; refine (HJ.out _ HB6.out).mono ?_; rintro e u6 ⟨rfl, hB⟩; have Yh := Lib.hid (Xh6.out.below hB Xh6.out.lt); have Yw := Lib.hid (Xw6.out.below hB Xw6.out.lt); have Ya := Lib.hid (Xa6.out.below hB Xa6.out.lt); have Yb := Lib.hid (Xb6.out.below hB Xb6.out.lt); have Ys := Lib.hid (Xs6.out.below hB Xs6.out.lt); have Yx := Lib.hid (Xx6.out.below hB Xx6.out.lt); have Yr := Lib.hid (Xr6.out.below hB Xr6.out.lt); have HY := Lib.hid (HB6.out.trans (hB.mono HB6.out.size)); clear hB) | fail)
            refine world_is (P := fun W => Code.wp _ _ _ _ W) (fun W7 hW => ?_)
            have Xh7 : Hid (Blk W7 w.heap.size 23 #[.int .i64 hrole, .string hnonce, .string htag]) := by unfold Hid; rw [← hW]; exact (Yh.out.alloc _)
            have Xw7 : Hid (Blk W7 gw 25 #[.int .i64 wsess, .string wnonce, .string wtag]) := by unfold Hid; rw [← hW]; exact (Yw.out.alloc _)
            have Xa7 : Hid (Blk W7 ga 23 #[.int .i64 a0, .string a1, .string a2]) := by unfold Hid; rw [← hW]; exact (Ya.out.alloc _)
            have Xb7 : Hid (Blk W7 gb 23 #[.int .i64 a0, .string a1, .string a2]) := by unfold Hid; rw [← hW]; exact (Yb.out.alloc _)
            have Xs7 : Hid (Blk W7 gs 32 #[.int .i64 s0, .int .i64 s1, .int .i64 s2, .string s3, .int .i64 s4, .int .i64 s5, .int .u64 (s6 : Int)]) := by unfold Hid; rw [← hW]; exact (Ys.out.alloc _)
            have Xx7 : Hid (Blk W7 gx 25 #[.int .i64 b0, .string b1, .string b2]) := by unfold Hid; rw [← hW]; exact (Yx.out.alloc _)
            have Xr7 : Hid (Blk W7 gr 36 #[.int .i64 s0, .int .i64 s1, .int .i64 s2, .string s3, .int .i64 s4, .int .i64 s5, .int .u64 (s6 : Int), .int .i64 b0, .string b1, .string b2, .int .i64 (E2 : Int)]) := by unfold Hid; rw [← hW]; exact (Yr.out.alloc _)
            have Xc7 : Hid (Blk W7 u6.heap.size 32 #[.int .i64 j0, .int .i64 j1, .int .i64 j2, .string j3, .int .i64 j4, .int .i64 j5, .int .u64 (j6 : Int)]) := by unfold Hid; rw [← hW]; exact Blk.new _ _ _
            have HB7 : Hid (Below w.heap.size w W7) := by unfold Hid; rw [← hW]; exact HY.out.alloc HY.out.size _
            clear hW HY HB6 Xh6 Yh Xw6 Yw Xa6 Ya Xb6 Yb Xs6 Ys Xx6 Yx Xr6 Yr hc0 hc1 hc2 wc0 wc1 wc2
            obtain ⟨gc, eg⟩ : ∃ g, u6.heap.size = g := ⟨_, rfl⟩
            rw [eg] at Xc7 ⊢
            clear eg
            have hc0 := Xh7.out.cell 0; have hc1 := Xh7.out.cell 1; have hc2 := Xh7.out.cell 2
            have wc0 := Xw7.out.cell 0; have wc1 := Xw7.out.cell 1; have wc2 := Xw7.out.cell 2
            go_upto_region 10 with (first | (go_at_call 16; refine (HRJ.out _ HB7.out).mono ?_; rintro e u7 ⟨rfl, hB⟩; have Yh := Lib.hid (Xh7.out.below hB Xh7.out.lt); have Yw := Lib.hid (Xw7.out.below hB Xw7.out.lt); have Ya := Lib.hid (Xa7.out.below hB Xa7.out.lt); have Yb := Lib.hid (Xb7.out.below hB Xb7.out.lt); have Ys := Lib.hid (Xs7.out.below hB Xs7.out.lt); have Yx := Lib.hid (Xx7.out.below hB Xx7.out.lt); have Yr := Lib.hid (Xr7.out.below hB Xr7.out.lt); have Yc := Lib.hid (Xc7.out.below hB Xc7.out.lt); have HY := Lib.hid (HB7.out.trans (hB.mono HB7.out.size)); clear hB) | fail)
            refine world_is (P := fun W => Code.wp _ _ _ _ W) (fun W8 hW => ?_)
            have Xh8 : Hid (Blk W8 w.heap.size 23 #[.int .i64 hrole, .string hnonce, .string htag]) := by unfold Hid; rw [← hW]; exact (Yh.out.alloc _)
            have Xw8 : Hid (Blk W8 gw 25 #[.int .i64 wsess, .string wnonce, .string wtag]) := by unfold Hid; rw [← hW]; exact (Yw.out.alloc _)
            have Xa8 : Hid (Blk W8 ga 23 #[.int .i64 a0, .string a1, .string a2]) := by unfold Hid; rw [← hW]; exact (Ya.out.alloc _)
            have Xb8 : Hid (Blk W8 gb 23 #[.int .i64 a0, .string a1, .string a2]) := by unfold Hid; rw [← hW]; exact (Yb.out.alloc _)
            have Xs8 : Hid (Blk W8 gs 32 #[.int .i64 s0, .int .i64 s1, .int .i64 s2, .string s3, .int .i64 s4, .int .i64 s5, .int .u64 (s6 : Int)]) := by unfold Hid; rw [← hW]; exact (Ys.out.alloc _)
            have Xx8 : Hid (Blk W8 gx 25 #[.int .i64 b0, .string b1, .string b2]) := by unfold Hid; rw [← hW]; exact (Yx.out.alloc _)
            have Xr8 : Hid (Blk W8 gr 36 #[.int .i64 s0, .int .i64 s1, .int .i64 s2, .string s3, .int .i64 s4, .int .i64 s5, .int .u64 (s6 : Int), .int .i64 b0, .string b1, .string b2, .int .i64 (E2 : Int)]) := by unfold Hid; rw [← hW]; exact (Yr.out.alloc _)
            have Xc8 : Hid (Blk W8 gc 32 #[.int .i64 j0, .int .i64 j1, .int .i64 j2, .string j3, .int .i64 j4, .int .i64 j5, .int .u64 (j6 : Int)]) := by unfold Hid; rw [← hW]; exact (Yc.out.alloc _)
            have Xd8 : Hid (Blk W8 u7.heap.size 32 #[.int .i64 j0, .int .i64 j1, .int .i64 j2, .string j3, .int .i64 j4, .int .i64 j5, .int .u64 (j6 : Int)]) := by unfold Hid; rw [← hW]; exact Blk.new _ _ _
            have HB8 : Hid (Below w.heap.size w W8) := by unfold Hid; rw [← hW]; exact HY.out.alloc HY.out.size _
            clear hW HY HB7 Xh7 Yh Xw7 Yw Xa7 Ya Xb7 Yb Xs7 Ys Xx7 Yx Xr7 Yr Xc7 Yc hc0 hc1 hc2 wc0 wc1 wc2
            obtain ⟨gd, eg⟩ : ∃ g, u7.heap.size = g := ⟨_, rfl⟩
            rw [eg] at Xd8 ⊢
            clear eg
            have ac0 := Xa8.out.cell 0; have ac1 := Xa8.out.cell 1; have ac2 := Xa8.out.cell 2
            have bc0 := Xb8.out.cell 0; have bc1 := Xb8.out.cell 1; have bc2 := Xb8.out.cell 2
            have sc0 := Xs8.out.cell 0; have sc1 := Xs8.out.cell 1; have sc2 := Xs8.out.cell 2; have sc3 := Xs8.out.cell 3; have sc4 := Xs8.out.cell 4; have sc5 := Xs8.out.cell 5; have sc6 := Xs8.out.cell 6
            have xc0 := Xx8.out.cell 0; have xc1 := Xx8.out.cell 1; have xc2 := Xx8.out.cell 2
            have rc0 := Xr8.out.cell 0; have rc1 := Xr8.out.cell 1; have rc2 := Xr8.out.cell 2; have rc3 := Xr8.out.cell 3; have rc4 := Xr8.out.cell 4; have rc5 := Xr8.out.cell 5; have rc6 := Xr8.out.cell 6; have rc7 := Xr8.out.cell 7; have rc8 := Xr8.out.cell 8; have rc9 := Xr8.out.cell 9; have rc10 := Xr8.out.cell 10
            have cc0 := Xc8.out.cell 0; have cc1 := Xc8.out.cell 1; have cc2 := Xc8.out.cell 2; have cc3 := Xc8.out.cell 3; have cc4 := Xc8.out.cell 4; have cc5 := Xc8.out.cell 5; have cc6 := Xc8.out.cell 6
            have dc0 := Xd8.out.cell 0; have dc1 := Xd8.out.cell 1; have dc2 := Xd8.out.cell 2; have dc3 := Xd8.out.cell 3; have dc4 := Xd8.out.cell 4; have dc5 := Xd8.out.cell 5; have dc6 := Xd8.out.cell 6
            go_wp2_with fail
            go_ret
            exact ⟨rfl, HB8.out⟩
          · have d0 : decide ((100 : Int) < (sec.size : Int)) = false := decide_eq_false (by omega)
            have d1 : decide ((100 : Int) < (h.nonce.size : Int)) = false := decide_eq_false (by omega)
            have d2 : decide ((100 : Int) < (wl.nonce.size : Int)) = false := decide_eq_false (by omega)
            have d3 : decide ((100 : Int) < (h.tag.size : Int)) = false := decide_eq_false (by omega)
            have d4 : decide ((100 : Int) < (wl.tag.size : Int)) = true := decide_eq_true (by omega)
            clear hK hK2
            obtain ⟨hrole, hnonce, htag⟩ := h
            obtain ⟨wsess, wnonce, wtag⟩ := wl
            unfold helV helC welV welC
            dsimp only at d0 d1 d2 d3 d4 ⊢
            go_enter Tryd.func3, Tryd.ntmps3
            go_upto_region 1 with fail
            refine world_is (P := fun W => Code.wp _ _ _ _ W) (fun W1 hW1 => ?_)
            have Xh1 : Hid (Blk W1 w.heap.size 23 #[.int .i64 hrole, .string hnonce, .string htag]) := by unfold Hid; rw [← hW1]; exact (Blk.new w _ _).alloc _
            have Xw1 : Hid (Blk W1 (w.heap.size + 1) 25 #[.int .i64 wsess, .string wnonce, .string wtag]) := by unfold Hid; rw [← hW1]; exact blk_new2 _ _ _ _
            have HB1 : Hid (Below w.heap.size w W1) := by unfold Hid; rw [← hW1]; exact ((Below.refl w.heap.size w).alloc (Nat.le_refl _) _).alloc (by rw [World.size_alloc]; exact Nat.le_succ _) _
            clear hW1
            obtain ⟨gw, egw⟩ : ∃ g, w.heap.size + 1 = g := ⟨_, rfl⟩
            rw [egw] at Xw1 ⊢
            clear egw
            go_wp2_with (first | (go_at_call 10; refine (HSA.out _ HB1.out).mono ?_; rintro e w1 ⟨rfl, hB⟩; have Xh2 := Lib.hid (Xh1.out.below hB Xh1.out.lt); have Xw2 := Lib.hid (Xw1.out.below hB Xw1.out.lt); have HB2 := Lib.hid (HB1.out.trans (hB.mono HB1.out.size)); have hc1 := Xh2.out.cell 1; have hc2 := Xh2.out.cell 2; have wc1 := Xw2.out.cell 1; have wc2 := Xw2.out.cell 2; clear hB) | fail)
            go_ret
            exact ⟨rfl, HB2.out⟩
        · have d0 : decide ((100 : Int) < (sec.size : Int)) = false := decide_eq_false (by omega)
          have d1 : decide ((100 : Int) < (h.nonce.size : Int)) = false := decide_eq_false (by omega)
          have d2 : decide ((100 : Int) < (wl.nonce.size : Int)) = false := decide_eq_false (by omega)
          have d3 : decide ((100 : Int) < (h.tag.size : Int)) = true := decide_eq_true (by omega)
          clear hK hK2
          obtain ⟨hrole, hnonce, htag⟩ := h
          obtain ⟨wsess, wnonce, wtag⟩ := wl
          unfold helV helC welV welC
          dsimp only at d0 d1 d2 d3 ⊢
          go_enter Tryd.func3, Tryd.ntmps3
          go_upto_region 1 with fail
          refine world_is (P := fun W => Code.wp _ _ _ _ W) (fun W1 hW1 => ?_)
          have Xh1 : Hid (Blk W1 w.heap.size 23 #[.int .i64 hrole, .string hnonce, .string htag]) := by unfold Hid; rw [← hW1]; exact (Blk.new w _ _).alloc _
          have Xw1 : Hid (Blk W1 (w.heap.size + 1) 25 #[.int .i64 wsess, .string wnonce, .string wtag]) := by unfold Hid; rw [← hW1]; exact blk_new2 _ _ _ _
          have HB1 : Hid (Below w.heap.size w W1) := by unfold Hid; rw [← hW1]; exact ((Below.refl w.heap.size w).alloc (Nat.le_refl _) _).alloc (by rw [World.size_alloc]; exact Nat.le_succ _) _
          clear hW1
          obtain ⟨gw, egw⟩ : ∃ g, w.heap.size + 1 = g := ⟨_, rfl⟩
          rw [egw] at Xw1 ⊢
          clear egw
          go_wp2_with (first | (go_at_call 10; refine (HSA.out _ HB1.out).mono ?_; rintro e w1 ⟨rfl, hB⟩; have Xh2 := Lib.hid (Xh1.out.below hB Xh1.out.lt); have Xw2 := Lib.hid (Xw1.out.below hB Xw1.out.lt); have HB2 := Lib.hid (HB1.out.trans (hB.mono HB1.out.size)); have hc1 := Xh2.out.cell 1; have hc2 := Xh2.out.cell 2; have wc1 := Xw2.out.cell 1; have wc2 := Xw2.out.cell 2; clear hB) | fail)
          go_ret
          exact ⟨rfl, HB2.out⟩
      · have d0 : decide ((100 : Int) < (sec.size : Int)) = false := decide_eq_false (by omega)
        have d1 : decide ((100 : Int) < (h.nonce.size : Int)) = false := decide_eq_false (by omega)
        have d2 : decide ((100 : Int) < (wl.nonce.size : Int)) = true := decide_eq_true (by omega)
        clear hK hK2
        obtain ⟨hrole, hnonce, htag⟩ := h
        obtain ⟨wsess, wnonce, wtag⟩ := wl
        unfold helV helC welV welC
        dsimp only at d0 d1 d2 ⊢
        go_enter Tryd.func3, Tryd.ntmps3
        go_upto_region 1 with fail
        refine world_is (P := fun W => Code.wp _ _ _ _ W) (fun W1 hW1 => ?_)
        have Xh1 : Hid (Blk W1 w.heap.size 23 #[.int .i64 hrole, .string hnonce, .string htag]) := by unfold Hid; rw [← hW1]; exact (Blk.new w _ _).alloc _
        have Xw1 : Hid (Blk W1 (w.heap.size + 1) 25 #[.int .i64 wsess, .string wnonce, .string wtag]) := by unfold Hid; rw [← hW1]; exact blk_new2 _ _ _ _
        have HB1 : Hid (Below w.heap.size w W1) := by unfold Hid; rw [← hW1]; exact ((Below.refl w.heap.size w).alloc (Nat.le_refl _) _).alloc (by rw [World.size_alloc]; exact Nat.le_succ _) _
        clear hW1
        obtain ⟨gw, egw⟩ : ∃ g, w.heap.size + 1 = g := ⟨_, rfl⟩
        rw [egw] at Xw1 ⊢
        clear egw
        go_wp2_with (first | (go_at_call 10; refine (HSA.out _ HB1.out).mono ?_; rintro e w1 ⟨rfl, hB⟩; have Xh2 := Lib.hid (Xh1.out.below hB Xh1.out.lt); have Xw2 := Lib.hid (Xw1.out.below hB Xw1.out.lt); have HB2 := Lib.hid (HB1.out.trans (hB.mono HB1.out.size)); have hc1 := Xh2.out.cell 1; have hc2 := Xh2.out.cell 2; have wc1 := Xw2.out.cell 1; have wc2 := Xw2.out.cell 2; clear hB) | fail)
        go_ret
        exact ⟨rfl, HB2.out⟩
    · have d0 : decide ((100 : Int) < (sec.size : Int)) = false := decide_eq_false (by omega)
      have d1 : decide ((100 : Int) < (h.nonce.size : Int)) = true := decide_eq_true (by omega)
      clear hK hK2
      obtain ⟨hrole, hnonce, htag⟩ := h
      obtain ⟨wsess, wnonce, wtag⟩ := wl
      unfold helV helC welV welC
      dsimp only at d0 d1 ⊢
      go_enter Tryd.func3, Tryd.ntmps3
      go_upto_region 1 with fail
      refine world_is (P := fun W => Code.wp _ _ _ _ W) (fun W1 hW1 => ?_)
      have Xh1 : Hid (Blk W1 w.heap.size 23 #[.int .i64 hrole, .string hnonce, .string htag]) := by unfold Hid; rw [← hW1]; exact (Blk.new w _ _).alloc _
      have Xw1 : Hid (Blk W1 (w.heap.size + 1) 25 #[.int .i64 wsess, .string wnonce, .string wtag]) := by unfold Hid; rw [← hW1]; exact blk_new2 _ _ _ _
      have HB1 : Hid (Below w.heap.size w W1) := by unfold Hid; rw [← hW1]; exact ((Below.refl w.heap.size w).alloc (Nat.le_refl _) _).alloc (by rw [World.size_alloc]; exact Nat.le_succ _) _
      clear hW1
      obtain ⟨gw, egw⟩ : ∃ g, w.heap.size + 1 = g := ⟨_, rfl⟩
      rw [egw] at Xw1 ⊢
      clear egw
      go_wp2_with (first | (go_at_call 10; refine (HSA.out _ HB1.out).mono ?_; rintro e w1 ⟨rfl, hB⟩; have Xh2 := Lib.hid (Xh1.out.below hB Xh1.out.lt); have Xw2 := Lib.hid (Xw1.out.below hB Xw1.out.lt); have HB2 := Lib.hid (HB1.out.trans (hB.mono HB1.out.size)); have hc1 := Xh2.out.cell 1; have hc2 := Xh2.out.cell 2; have wc1 := Xw2.out.cell 1; have wc2 := Xw2.out.cell 2; clear hB) | fail)
      go_ret
      exact ⟨rfl, HB2.out⟩
  · have d0 : decide ((100 : Int) < (sec.size : Int)) = true := decide_eq_true (by omega)
    clear hK hK2
    obtain ⟨hrole, hnonce, htag⟩ := h
    obtain ⟨wsess, wnonce, wtag⟩ := wl
    unfold helV helC welV welC
    dsimp only at d0 ⊢
    go_enter Tryd.func3, Tryd.ntmps3
    go_upto_region 1 with fail
    refine world_is (P := fun W => Code.wp _ _ _ _ W) (fun W1 hW1 => ?_)
    have Xh1 : Hid (Blk W1 w.heap.size 23 #[.int .i64 hrole, .string hnonce, .string htag]) := by unfold Hid; rw [← hW1]; exact (Blk.new w _ _).alloc _
    have Xw1 : Hid (Blk W1 (w.heap.size + 1) 25 #[.int .i64 wsess, .string wnonce, .string wtag]) := by unfold Hid; rw [← hW1]; exact blk_new2 _ _ _ _
    have HB1 : Hid (Below w.heap.size w W1) := by unfold Hid; rw [← hW1]; exact ((Below.refl w.heap.size w).alloc (Nat.le_refl _) _).alloc (by rw [World.size_alloc]; exact Nat.le_succ _) _
    clear hW1
    obtain ⟨gw, egw⟩ : ∃ g, w.heap.size + 1 = g := ⟨_, rfl⟩
    rw [egw] at Xw1 ⊢
    clear egw
    go_wp2_with (first | (go_at_call 10; refine (HSA.out _ HB1.out).mono ?_; rintro e w1 ⟨rfl, hB⟩; have Xh2 := Lib.hid (Xh1.out.below hB Xh1.out.lt); have Xw2 := Lib.hid (Xw1.out.below hB Xw1.out.lt); have HB2 := Lib.hid (HB1.out.trans (hB.mono HB1.out.size)); have hc1 := Xh2.out.cell 1; have hc2 := Xh2.out.cell 2; have wc1 := Xw2.out.cell 1; have wc2 := Xw2.out.cell 2; clear hB) | fail)
    go_ret
    exact ⟨rfl, HB2.out⟩
end Go.Proofs.YtbhagfdkipgggaaDoor
