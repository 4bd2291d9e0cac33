/-
  Layer 29 (session): Send.
  Layer 29 (session): Receive.
-/
import Derived.Test.YtbhagfdkipgggaaDoorMB
import Derived.Test.YtbhagfdkipgggaaDoorMK
namespace Go.Proofs.YtbhagfdkipgggaaDoor
open Go.RowKit Go.Shelf
attribute [local go_sem] Oper.semAt_some
theorem infoMsg : (Tryd.prog.info? 42).map (·.size) = some 3 := by kernel_rfl
def zMsg : Array Value := #[.int .i64 0, .int .i64 0, .string ⟨#[]⟩]
theorem ctx_any (w : World) (a b c : Int) (ha : 0 ≤ a ∧ a < 9223372036854775808) (hb : 0 ≤ b ∧ b < 9223372036854775808) (hc : 0 ≤ c ∧ c < 9223372036854775808) :
    Calls Tryd.prog 48 #[.int .i64 a, .int .i64 b, .int .i64 c] w fun e w' => e = .returned (.string (ctxP a b c)) ∧ Below w.heap.size w w' := by
  have h := context_any w a.toNat b.toNat c.toNat (by omega) (by omega) (by omega)
  rw [Int.toNat_of_nonneg ha.1, Int.toNat_of_nonneg hb.1, Int.toNat_of_nonneg hc.1] at h
  exact h
theorem blk3_put {w : World} {g : Nat} {t : TypeId} {y0 y1 y2 : Value} (h : Blk w g t #[y0, y1, y2]) (x0 x1 x2 : Value) : Blk (((w.setCell ⟨g, 0, none⟩ x0).setCell ⟨g, 1, none⟩ x1).setCell ⟨g, 2, none⟩ x2) g t #[x0, x1, x2] := by
  have h1 := ((h.set_ 0 x0).set_ 1 x1).set_ 2 x2
  simpa only [List.setIfInBounds_toArray, List.set_cons_zero, List.set_cons_succ] using h1
set_option maxRecDepth 100000 in
set_option maxHeartbeats 1600000 in
theorem send_any (w : World) (s : Ses) (t : ByteArray) (hs : s.Fits) (ht : t.size ≤ 1000000) (hK : KAt w 1) :
    Calls Tryd.prog 17 #[sesV s, .string t] w fun e w' => e = .returned (.tuple #[sesV (sendP s t).1, msgV (sendP s t).2.1, .int .i64 ((sendP s t).2.2 : Nat)]) ∧ Below w.heap.size w w' := by
  have HV : Hid (∀ wx, Calls Tryd.prog 21 #[sesV s] wx fun e w' => e = .returned (.bool (validP s)) ∧ Below wx.heap.size wx w') := fun wx => valid_any wx s hs
  by_cases hv : validP s = true
  · obtain ⟨p1, p2, _, _, p5, p6, p7, p8, _, _⟩ := valid_parts hv
    rw [hv] at HV
    by_cases hsp : s.sent = 4294967296
    · have hJ : sendP s t = (noSes, noMsg, 22) := by unfold sendP; rw [if_pos hv, if_pos hsp]
      rw [hJ]
      clear hJ hv hs p1 p2 p5 p6 p7 p8 hK
      obtain ⟨id, role, side, key, sent, top, seen⟩ := s
      unfold sesV sesC at HV
      dsimp only at HV hsp
      subst hsp
      unfold sesV sesC
      dsimp only
      go_enter Tryd.func17, Tryd.ntmps17
      go_upto_region 1 with fail
      refine world_is (P := fun W => Code.wp _ _ _ _ W) (fun Wa hWa => ?_)
      have HS0 : Hid (Blk Wa w.heap.size 32 #[.int .i64 id, .int .i64 role, .int .i64 side, .string key, .int .i64 4294967296, .int .i64 top, .int .u64 (seen : Int)]) := by unfold Hid; rw [← hWa]; exact ((Blk.new w _ _).alloc _).alloc _
      have HR0 : Hid (Blk Wa (w.heap.size + 1) 32 #[.int .i64 0, .int .i64 0, .int .i64 0, .string ⟨#[]⟩, .int .i64 0, .int .i64 0, .int .u64 0]) := by unfold Hid; rw [← hWa]; exact (blk_new2 _ _ _ _).alloc _
      have HM0 : Hid (Blk Wa (w.heap.size + 1 + 1) 42 #[.int .i64 0, .int .i64 0, .string ⟨#[]⟩]) := by unfold Hid; rw [← hWa]; exact blk_new3 _ _ _ _ _
      have HB0 : Hid (Below w.heap.size w Wa) := by unfold Hid; rw [← hWa]; exact ((Below.refl w.heap.size w).alloc (Nat.le_refl _) _).alloc (by rw [World.size_alloc]; exact Nat.le_succ _) _ |>.alloc (by rw [World.size_alloc, World.size_alloc]; omega) _
      clear hWa
      have c0 := HS0.out.cell 0
      have c1 := HS0.out.cell 1
      have c2 := HS0.out.cell 2
      have c3 := HS0.out.cell 3
      have c4 := HS0.out.cell 4
      have c5 := HS0.out.cell 5
      have c6 := HS0.out.cell 6
      go_wp2_with (first
        | (go_at_call 21; refine (HV.out _).mono ?_; rintro e w1 ⟨rfl, hB⟩; have HS1 := Lib.hid (HS0.out.below hB HS0.out.lt); have HR1 := Lib.hid (HR0.out.below hB HR0.out.lt); have HM1 := Lib.hid (HM0.out.below hB HM0.out.lt); have HB1 := Lib.hid (HB0.out.trans (hB.mono HB0.out.size)); clear hB; have c4 := HS1.out.cell 4; have z0 := HR1.out.cell 0; have z1 := HR1.out.cell 1; have z2 := HR1.out.cell 2; have z3 := HR1.out.cell 3; have z4 := HR1.out.cell 4; have z5 := HR1.out.cell 5; have z6 := HR1.out.cell 6; have f0 := HR1.out.frozen 0; have f1 := HR1.out.frozen 1; have f2 := HR1.out.frozen 2; have f3 := HR1.out.frozen 3; have f4 := HR1.out.frozen 4; have f5 := HR1.out.frozen 5; have f6 := HR1.out.frozen 6; have y0 := HM1.out.cell 0; have y1 := HM1.out.cell 1; have y2 := HM1.out.cell 2; have g0 := HM1.out.frozen 0; have g1 := HM1.out.frozen 1; have g2 := HM1.out.frozen 2)
        | fail)
      have hL1 := blk_other3 (g2 := (w.heap.size + 1 + 1)) (blk7_same HR1.out) (by omega) (.int .i64 0) (.int .i64 0) (.string ⟨#[]⟩)
      have hL2 := blk3_same (blk_other7 (g2 := (w.heap.size + 1)) HM1.out (by omega) (.int .i64 0) (.int .i64 0) (.int .i64 0) (.string ⟨#[]⟩) (.int .i64 0) (.int .i64 0) (.int .u64 0))
      have hBL := Below.setCell (p := ⟨(w.heap.size + 1 + 1), 2, none⟩) (Below.setCell (p := ⟨(w.heap.size + 1 + 1), 1, none⟩) (Below.setCell (p := ⟨(w.heap.size + 1 + 1), 0, none⟩) (Below.setCell (p := ⟨(w.heap.size + 1), 6, none⟩) (Below.setCell (p := ⟨(w.heap.size + 1), 5, none⟩) (Below.setCell (p := ⟨(w.heap.size + 1), 4, none⟩) (Below.setCell (p := ⟨(w.heap.size + 1), 3, none⟩) (Below.setCell (p := ⟨(w.heap.size + 1), 2, none⟩) (Below.setCell (p := ⟨(w.heap.size + 1), 1, none⟩) (Below.setCell (p := ⟨(w.heap.size + 1), 0, none⟩) (HB1.out) ((by show w.heap.size ≤ w.heap.size + 1; omega)) (.int .i64 0)) ((by show w.heap.size ≤ w.heap.size + 1; omega)) (.int .i64 0)) ((by show w.heap.size ≤ w.heap.size + 1; omega)) (.int .i64 0)) ((by show w.heap.size ≤ w.heap.size + 1; omega)) (.string ⟨#[]⟩)) ((by show w.heap.size ≤ w.heap.size + 1; omega)) (.int .i64 0)) ((by show w.heap.size ≤ w.heap.size + 1; omega)) (.int .i64 0)) ((by show w.heap.size ≤ w.heap.size + 1; omega)) (.int .u64 0)) ((by show w.heap.size ≤ w.heap.size + 1 + 1; omega)) (.int .i64 0)) ((by show w.heap.size ≤ w.heap.size + 1 + 1; omega)) (.int .i64 0)) ((by show w.heap.size ≤ w.heap.size + 1 + 1; omega)) (.string ⟨#[]⟩)
      exact bodyPost_ret (v := .tuple #[.agg zSes, .agg zMsg, .int .i64 22]) (results_cct (P := Tryd.prog) (p := 4) (q := 5) (r := 6) rfl _ _ (w.heap.size + 1) (w.heap.size + 1 + 1) 32 42 zSes zMsg _ _ rfl hL1 Tryd.underlying32 rfl infoSes rfl hL2 Tryd.underlying42 rfl infoMsg) rfl ⟨rfl, hBL⟩
    · have hJ : sendP s t = ({ s with sent := s.sent + 1 }, ⟨s.id, s.sent + 1, sealP s t⟩, 0) := by unfold sendP; rw [if_pos hv, if_neg hsp]
      rw [hJ]
      clear hJ hv hs
      obtain ⟨X, hX⟩ : ∃ X, sealP s t = X := ⟨_, rfl⟩
      rw [hX]
      obtain ⟨CX, hCX⟩ : ∃ CX, ctxP s.id s.side (s.sent + 1) = CX := ⟨_, rfl⟩
      have HCT : Hid (∀ wx, Calls Tryd.prog 48 #[.int .i64 s.id, .int .i64 s.side, .int .i64 (s.sent + 1)] wx fun e w' => e = .returned (.string CX) ∧ Below wx.heap.size wx w') := fun wx => by
        rw [← hCX]
        exact ctx_any wx s.id s.side (s.sent + 1) (by omega) (by omega) (by omega)
      have HSE : Hid (∀ wx, Below w.heap.size w wx → Calls Tryd.prog 47 #[.string s.key, .string CX, .string t] wx fun e w' => e = .returned (.tuple #[.string X, .int .i64 0]) ∧ Below wx.heap.size wx w') := fun wx hB => by
        have h := seal_any wx s.key CX t p6 (by rw [← hCX]; exact ctxP_size _ _ _) ht (hK.below hB)
        rw [show txt (sealL (bl s.key) (bl CX) (bl t)) = X by rw [← hX, ← hCX]; rfl] at h
        exact h
      clear hX hCX hK
      obtain ⟨id, role, side, key, sent, top, seen⟩ := s
      unfold sesV sesC at HV
      dsimp only at HV HCT HSE hsp p1 p2 p5 p6 p7 p8
      have q1 : decide (sent = 4294967296) = false := decide_eq_false hsp
      have q2 : decide ((1048576 : Int) < (t.size : Int)) = false := decide_eq_false (by omega)
      unfold sesV sesC msgV msgC
      dsimp only
      go_enter Tryd.func17, Tryd.ntmps17
      go_upto_region 1 with fail
      refine world_is (P := fun W => Code.wp _ _ _ _ W) (fun Wa hWa => ?_)
      have HS0 : Hid (Blk Wa w.heap.size 32 #[.int .i64 id, .int .i64 role, .int .i64 side, .string key, .int .i64 sent, .int .i64 top, .int .u64 (seen : Int)]) := by unfold Hid; rw [← hWa]; exact ((Blk.new w _ _).alloc _).alloc _
      have HR0 : Hid (Blk Wa (w.heap.size + 1) 32 #[.int .i64 0, .int .i64 0, .int .i64 0, .string ⟨#[]⟩, .int .i64 0, .int .i64 0, .int .u64 0]) := by unfold Hid; rw [← hWa]; exact (blk_new2 _ _ _ _).alloc _
      have HM0 : Hid (Blk Wa (w.heap.size + 1 + 1) 42 #[.int .i64 0, .int .i64 0, .string ⟨#[]⟩]) := by unfold Hid; rw [← hWa]; exact blk_new3 _ _ _ _ _
      have HB0 : Hid (Below w.heap.size w Wa) := by unfold Hid; rw [← hWa]; exact ((Below.refl w.heap.size w).alloc (Nat.le_refl _) _).alloc (by rw [World.size_alloc]; exact Nat.le_succ _) _ |>.alloc (by rw [World.size_alloc, World.size_alloc]; omega) _
      clear hWa
      have c0 := HS0.out.cell 0
      have c1 := HS0.out.cell 1
      have c2 := HS0.out.cell 2
      have c3 := HS0.out.cell 3
      have c4 := HS0.out.cell 4
      have c5 := HS0.out.cell 5
      have c6 := HS0.out.cell 6
      go_upto_region 11 with (first
        | (go_at_call 21; refine (HV.out _).mono ?_; rintro e w1 ⟨rfl, hB⟩; have HS1 := Lib.hid (HS0.out.below hB HS0.out.lt); have HR1 := Lib.hid (HR0.out.below hB HR0.out.lt); have HM1 := Lib.hid (HM0.out.below hB HM0.out.lt); have HB1 := Lib.hid (HB0.out.trans (hB.mono HB0.out.size)); clear hB; have c4 := HS1.out.cell 4; have f4 := HS1.out.frozen 4)
        | fail)
      try simp only [sA]
      refine world_is (P := fun W => Code.wp _ _ _ _ W) (fun W2 hW2 => ?_)
      have HS2 : Hid (Blk W2 w.heap.size 32 #[.int .i64 id, .int .i64 role, .int .i64 side, .string key, .int .i64 (sent + 1), .int .i64 top, .int .u64 (seen : Int)]) := by unfold Hid; rw [← hW2]; have h := HS1.out.set_ 4 (.int .i64 (sent + 1)); simpa only [List.setIfInBounds_toArray, List.set_cons_zero, List.set_cons_succ] using h
      have HR2 : Hid (Blk W2 (w.heap.size + 1) 32 #[.int .i64 0, .int .i64 0, .int .i64 0, .string ⟨#[]⟩, .int .i64 0, .int .i64 0, .int .u64 0]) := by unfold Hid; rw [← hW2]; exact HR1.out.other (a := ⟨w.heap.size, 4, none⟩) (by show w.heap.size + 1 ≠ w.heap.size; omega) _
      have HM2 : Hid (Blk W2 (w.heap.size + 1 + 1) 42 #[.int .i64 0, .int .i64 0, .string ⟨#[]⟩]) := by unfold Hid; rw [← hW2]; exact HM1.out.other (a := ⟨w.heap.size, 4, none⟩) (by show w.heap.size + 1 + 1 ≠ w.heap.size; omega) _
      have HB2 : Hid (Below w.heap.size w W2) := by unfold Hid; rw [← hW2]; exact HB1.out.setCell (p := ⟨w.heap.size, 4, none⟩) (Nat.le_refl _) _
      clear hW2 HS1 HR1 HM1 HB1 HS0 HR0 HM0 HB0 HV q1 q2 c0 c1 c2 c3 c4 c5 c6 f4
      have HH : Hid (∀ wx, Below W2.heap.size W2 wx → wx.cell? ⟨w.heap.size, 0, none⟩ = some (.int .i64 id) ∧ wx.cell? ⟨w.heap.size, 2, none⟩ = some (.int .i64 side) ∧ wx.cell? ⟨w.heap.size, 3, none⟩ = some (.string key) ∧ wx.cell? ⟨w.heap.size, 4, none⟩ = some (.int .i64 (sent + 1))) := fun wx hB => by
        have hh := HS2.out.below hB HS2.out.lt
        exact ⟨hh.cell 0, hh.cell 2, hh.cell 3, hh.cell 4⟩
      refine wp_region_held_drew (S := (fun w' => w'.cell? ⟨w.heap.size, 0, none⟩ = some (.int .i64 id) ∧ w'.cell? ⟨w.heap.size, 2, none⟩ = some (.int .i64 side) ∧ w'.cell? ⟨w.heap.size, 3, none⟩ = some (.string key) ∧ w'.cell? ⟨w.heap.size, 4, none⟩ = some (.int .i64 (sent + 1)))) (by kernel_rfl) (HH.out _ (Below.refl W2.heap.size W2).drew) (fun hHeld => ?_)
      refine' wpAnyH_take (i := 0) (v := ?v0A) rfl (by kernel_rfl) (by kernel_rfl) (by kernel_rfl) (fun _ _ _ h => h) (Or.inl ⟨by rfl, ?hy0A⟩) hHeld ?rest0A
      case hy0A => intro w hSw; (try dsimp only at hSw); go_simp; all_goals with_reducible rfl
      try simp only [sA, gA]
      refine' wpAnyH_take (i := 1) (v := ?v1A) rfl (by kernel_rfl) (by kernel_rfl) (by kernel_rfl) (fun _ _ _ h => h) (Or.inl ⟨by rfl, ?hy1A⟩) hHeld ?rest1A
      case hy1A => intro w hSw; (try dsimp only at hSw); go_simp; all_goals with_reducible rfl
      try simp only [sA, gA]
      refine' wpAnyH_take (i := 2) (v := ?v2A) rfl (by kernel_rfl) (by kernel_rfl) (by kernel_rfl) (fun _ _ _ h => h) (Or.inl ⟨by rfl, ?hy2A⟩) hHeld ?rest2A
      case hy2A => intro w hSw; (try dsimp only at hSw); go_simp; all_goals with_reducible rfl
      try simp only [sA, gA]
      refine' wpAnyH_take (i := 3) (v := ?v3A) rfl (by kernel_rfl) (by kernel_rfl) (by kernel_rfl) (fun _ _ _ h => h) (Or.inl ⟨by rfl, ?hy3A⟩) hHeld ?rest3A
      case hy3A => intro w hSw; (try dsimp only at hSw); go_simp; all_goals with_reducible rfl
      try simp only [sA, gA]
      refine' wpAnyH_take (i := 4) (v := ?v4A) rfl (by kernel_rfl) (by kernel_rfl) (by kernel_rfl) (fun _ _ _ h => h) (Or.inl ⟨by rfl, ?hy4A⟩) hHeld ?rest4A
      case hy4A => intro w hSw; (try dsimp only at hSw); go_simp; all_goals with_reducible rfl
      try simp only [sA, gA]
      refine' wpAnyH_take (i := 5) (v := ?v5A) rfl (by kernel_rfl) (by kernel_rfl) (by kernel_rfl) (fun _ _ _ h => h) (Or.inl ⟨by rfl, ?hy5A⟩) hHeld ?rest5A
      case hy5A => intro w hSw; (try dsimp only at hSw); go_simp; all_goals with_reducible rfl
      try simp only [sA, gA]
      refine' wpAnyH_take (i := 6) (v := ?v6A) rfl (by kernel_rfl) (by kernel_rfl) (by kernel_rfl) (fun _ _ _ h => h) (Or.inl ⟨by rfl, ?hy6A⟩) hHeld ?rest6A
      case hy6A => intro w hSw; (try dsimp only at hSw); go_simp; all_goals with_reducible rfl
      try simp only [sA, gA]
      refine' wpAnyH_take (i := 7) (v := ?v7A) rfl (by kernel_rfl) (by kernel_rfl) (by kernel_rfl) (fun _ _ _ h => h) (Or.inl ⟨by rfl, ?hy7A⟩) hHeld ?rest7A
      case hy7A => intro w hSw; (try dsimp only at hSw); go_simp; all_goals with_reducible rfl
      try simp only [sA, gA]
      refine' wpAnyH_take (i := 9) (v := ?v9A) rfl (by kernel_rfl) (by kernel_rfl) (by kernel_rfl) (fun _ _ _ h => h) (Or.inl ⟨by rfl, ?hy9A⟩) hHeld ?rest9A
      case hy9A => intro w hSw; (try dsimp only at hSw); go_simp; all_goals with_reducible rfl
      try simp only [sA, gA]
      refine wpAnyH_ready (rs := [8]) (by kernel_rfl) (by simp) ?_
      refine AllReadyH.cons rfl (fun K hK => ?_) AllReadyH.nil
      go_simp
      go_at_call 48
      refine (HCT.out _).mono ?_
      rintro e w3 ⟨rfl, hB⟩
      have HB23 := Lib.hid ((Below.refl W2.heap.size W2).drew.trans hB)
      clear hB
      go_wp2_with fail
      refine hK.out _ _ ?_ (fun hHeld2 => ?_)
      · exact HH.out _ HB23.out
      clear hK K hHeld
      have hHeld := hHeld2
      clear hHeld2
      try simp only [sA, gA]
      refine wpAnyH_ready (rs := [10]) (by kernel_rfl) (by simp) ?_
      refine AllReadyH.cons rfl (fun K hK => ?_) AllReadyH.nil
      go_simp
      go_at_call 47
      refine (HSE.out _ (HB2.out.trans (HB23.out.mono HB2.out.size))).mono ?_
      rintro e w4 ⟨rfl, hB⟩
      have HB24 := Lib.hid (HB23.out.trans (hB.mono HB23.out.size))
      clear hB
      go_wp2_with fail
      refine hK.out _ _ ?_ (fun hHeld2 => ?_)
      · exact HH.out _ HB24.out
      clear hK K hHeld
      have hHeld := hHeld2
      clear hHeld2
      try simp only [sA, gA]
      refine' wpAnyH_take (i := 11) (v := ?v11A) rfl (by kernel_rfl) (by kernel_rfl) (by kernel_rfl) (fun _ _ _ h => h) (Or.inl ⟨by rfl, ?hy11A⟩) hHeld ?rest11A
      case hy11A => intro w hSw; (try dsimp only at hSw); go_simp; all_goals with_reducible rfl
      try simp only [sA, gA]
      refine' wpAnyH_take (i := 12) (v := ?v12A) rfl (by kernel_rfl) (by kernel_rfl) (by kernel_rfl) (fun _ _ _ h => h) (Or.inl ⟨by rfl, ?hy12A⟩) hHeld ?rest12A
      case hy12A => intro w hSw; (try dsimp only at hSw); go_simp; all_goals with_reducible rfl
      try simp only [sA, gA]
      refine' wpAnyH_take (i := 13) (v := ?v13A) rfl (by kernel_rfl) (by kernel_rfl) (by kernel_rfl) (fun _ _ _ h => h) (Or.inl ⟨by rfl, ?hy13A⟩) hHeld ?rest13A
      case hy13A => intro w hSw; (try dsimp only at hSw); go_simp; all_goals with_reducible rfl
      try simp only [sA, gA]
      refine' wpAnyH_take (i := 14) (v := ?v14A) rfl (by kernel_rfl) (by kernel_rfl) (by kernel_rfl) (fun _ _ _ h => h) (Or.inl ⟨by rfl, ?hy14A⟩) hHeld ?rest14A
      case hy14A => intro w hSw; (try dsimp only at hSw); go_simp; all_goals with_reducible rfl
      try simp only [sA, gA]
      refine' wpAnyH_take (i := 15) (v := ?v15A) rfl (by kernel_rfl) (by kernel_rfl) (by kernel_rfl) (fun _ _ _ h => h) (Or.inl ⟨by rfl, ?hy15A⟩) hHeld ?rest15A
      case hy15A => intro w hSw; (try dsimp only at hSw); go_simp; all_goals with_reducible rfl
      try simp only [sA, gA]
      refine wpAnyH_done (by kernel_rfl) ?_ _
      clear hHeld
      clear HH
      have HS4 := Lib.hid (HS2.out.below HB24.out HS2.out.lt)
      have HR4 := Lib.hid (HR2.out.below HB24.out HR2.out.lt)
      have HM4 := Lib.hid (HM2.out.below HB24.out HM2.out.lt)
      have HB4 := Lib.hid (HB2.out.trans (HB24.out.mono HB2.out.size))
      have c0 := HS4.out.cell 0
      have c1 := HS4.out.cell 1
      have c2 := HS4.out.cell 2
      have c3 := HS4.out.cell 3
      have c4 := HS4.out.cell 4
      have c5 := HS4.out.cell 5
      have c6 := HS4.out.cell 6
      have z0 := HR4.out.cell 0
      have z1 := HR4.out.cell 1
      have z2 := HR4.out.cell 2
      have z3 := HR4.out.cell 3
      have z4 := HR4.out.cell 4
      have z5 := HR4.out.cell 5
      have z6 := HR4.out.cell 6
      have f0 := HR4.out.frozen 0
      have f1 := HR4.out.frozen 1
      have f2 := HR4.out.frozen 2
      have f3 := HR4.out.frozen 3
      have f4 := HR4.out.frozen 4
      have f5 := HR4.out.frozen 5
      have f6 := HR4.out.frozen 6
      have y0 := HM4.out.cell 0
      have y1 := HM4.out.cell 1
      have y2 := HM4.out.cell 2
      have g0 := HM4.out.frozen 0
      have g1 := HM4.out.frozen 1
      have g2 := HM4.out.frozen 2
      go_upto_region 12 with fail
      go_region
      go_wp2_with fail
      have hL1 := (blk_other3 (g2 := (w.heap.size + 1 + 1)) (blk7_put HR4.out (.int .i64 id) (.int .i64 role) (.int .i64 side) (.string key) (.int .i64 (sent + 1)) (.int .i64 top) (.int .u64 (seen : Int))) (by omega) (.int .i64 id) (.int .i64 (sent + 1)) (.string X)).drew
      have hL2 := (blk3_put (blk_other7 (g2 := (w.heap.size + 1)) HM4.out (by omega) (.int .i64 id) (.int .i64 role) (.int .i64 side) (.string key) (.int .i64 (sent + 1)) (.int .i64 top) (.int .u64 (seen : Int))) (.int .i64 id) (.int .i64 (sent + 1)) (.string X)).drew
      have hBL := (Below.setCell (p := ⟨(w.heap.size + 1 + 1), 2, none⟩) (Below.setCell (p := ⟨(w.heap.size + 1 + 1), 1, none⟩) (Below.setCell (p := ⟨(w.heap.size + 1 + 1), 0, none⟩) (Below.setCell (p := ⟨(w.heap.size + 1), 6, none⟩) (Below.setCell (p := ⟨(w.heap.size + 1), 5, none⟩) (Below.setCell (p := ⟨(w.heap.size + 1), 4, none⟩) (Below.setCell (p := ⟨(w.heap.size + 1), 3, none⟩) (Below.setCell (p := ⟨(w.heap.size + 1), 2, none⟩) (Below.setCell (p := ⟨(w.heap.size + 1), 1, none⟩) (Below.setCell (p := ⟨(w.heap.size + 1), 0, none⟩) (HB4.out) ((by show w.heap.size ≤ w.heap.size + 1; omega)) (.int .i64 id)) ((by show w.heap.size ≤ w.heap.size + 1; omega)) (.int .i64 role)) ((by show w.heap.size ≤ w.heap.size + 1; omega)) (.int .i64 side)) ((by show w.heap.size ≤ w.heap.size + 1; omega)) (.string key)) ((by show w.heap.size ≤ w.heap.size + 1; omega)) (.int .i64 (sent + 1))) ((by show w.heap.size ≤ w.heap.size + 1; omega)) (.int .i64 top)) ((by show w.heap.size ≤ w.heap.size + 1; omega)) (.int .u64 (seen : Int))) ((by show w.heap.size ≤ w.heap.size + 1 + 1; omega)) (.int .i64 id)) ((by show w.heap.size ≤ w.heap.size + 1 + 1; omega)) (.int .i64 (sent + 1))) ((by show w.heap.size ≤ w.heap.size + 1 + 1; omega)) (.string X)).drew
      exact bodyPost_ret (v := .tuple #[.agg #[.int .i64 id, .int .i64 role, .int .i64 side, .string key, .int .i64 (sent + 1), .int .i64 top, .int .u64 (seen : Int)], .agg #[.int .i64 id, .int .i64 (sent + 1), .string X], .int .i64 0]) (results_cct (P := Tryd.prog) (p := 4) (q := 5) (r := 6) rfl _ _ (w.heap.size + 1) (w.heap.size + 1 + 1) 32 42 #[.int .i64 id, .int .i64 role, .int .i64 side, .string key, .int .i64 (sent + 1), .int .i64 top, .int .u64 (seen : Int)] #[.int .i64 id, .int .i64 (sent + 1), .string X] _ _ rfl hL1 Tryd.underlying32 rfl infoSes rfl hL2 Tryd.underlying42 rfl infoMsg) rfl ⟨rfl, hBL⟩
  · have hv2 : validP s = false := by simpa using hv
    have hJ : sendP s t = (noSes, noMsg, 1) := by unfold sendP; rw [if_neg hv]
    rw [hJ]
    rw [hv2] at HV
    clear hJ hv hv2 hs hK
    obtain ⟨id, role, side, key, sent, top, seen⟩ := s
    unfold sesV sesC at HV ⊢
    dsimp only at HV ⊢
    go_enter Tryd.func17, Tryd.ntmps17
    go_upto_region 1 with fail
    refine world_is (P := fun W => Code.wp _ _ _ _ W) (fun Wa hWa => ?_)
    have HS0 : Hid (Blk Wa w.heap.size 32 #[.int .i64 id, .int .i64 role, .int .i64 side, .string key, .int .i64 sent, .int .i64 top, .int .u64 (seen : Int)]) := by unfold Hid; rw [← hWa]; exact ((Blk.new w _ _).alloc _).alloc _
    have HR0 : Hid (Blk Wa (w.heap.size + 1) 32 #[.int .i64 0, .int .i64 0, .int .i64 0, .string ⟨#[]⟩, .int .i64 0, .int .i64 0, .int .u64 0]) := by unfold Hid; rw [← hWa]; exact (blk_new2 _ _ _ _).alloc _
    have HM0 : Hid (Blk Wa (w.heap.size + 1 + 1) 42 #[.int .i64 0, .int .i64 0, .string ⟨#[]⟩]) := by unfold Hid; rw [← hWa]; exact blk_new3 _ _ _ _ _
    have HB0 : Hid (Below w.heap.size w Wa) := by unfold Hid; rw [← hWa]; exact ((Below.refl w.heap.size w).alloc (Nat.le_refl _) _).alloc (by rw [World.size_alloc]; exact Nat.le_succ _) _ |>.alloc (by rw [World.size_alloc, World.size_alloc]; omega) _
    clear hWa
    have c0 := HS0.out.cell 0
    have c1 := HS0.out.cell 1
    have c2 := HS0.out.cell 2
    have c3 := HS0.out.cell 3
    have c4 := HS0.out.cell 4
    have c5 := HS0.out.cell 5
    have c6 := HS0.out.cell 6
    go_wp2_with (first
      | (go_at_call 21; refine (HV.out _).mono ?_; rintro e w1 ⟨rfl, hB⟩; have HS1 := Lib.hid (HS0.out.below hB HS0.out.lt); have HR1 := Lib.hid (HR0.out.below hB HR0.out.lt); have HM1 := Lib.hid (HM0.out.below hB HM0.out.lt); have HB1 := Lib.hid (HB0.out.trans (hB.mono HB0.out.size)); clear hB; have z0 := HR1.out.cell 0; have z1 := HR1.out.cell 1; have z2 := HR1.out.cell 2; have z3 := HR1.out.cell 3; have z4 := HR1.out.cell 4; have z5 := HR1.out.cell 5; have z6 := HR1.out.cell 6; have f0 := HR1.out.frozen 0; have f1 := HR1.out.frozen 1; have f2 := HR1.out.frozen 2; have f3 := HR1.out.frozen 3; have f4 := HR1.out.frozen 4; have f5 := HR1.out.frozen 5; have f6 := HR1.out.frozen 6; have y0 := HM1.out.cell 0; have y1 := HM1.out.cell 1; have y2 := HM1.out.cell 2; have g0 := HM1.out.frozen 0; have g1 := HM1.out.frozen 1; have g2 := HM1.out.frozen 2)
      | fail)
    have hL1 := blk_other3 (g2 := (w.heap.size + 1 + 1)) (blk7_same HR1.out) (by omega) (.int .i64 0) (.int .i64 0) (.string ⟨#[]⟩)
    have hL2 := blk3_same (blk_other7 (g2 := (w.heap.size + 1)) HM1.out (by omega) (.int .i64 0) (.int .i64 0) (.int .i64 0) (.string ⟨#[]⟩) (.int .i64 0) (.int .i64 0) (.int .u64 0))
    have hBL := Below.setCell (p := ⟨(w.heap.size + 1 + 1), 2, none⟩) (Below.setCell (p := ⟨(w.heap.size + 1 + 1), 1, none⟩) (Below.setCell (p := ⟨(w.heap.size + 1 + 1), 0, none⟩) (Below.setCell (p := ⟨(w.heap.size + 1), 6, none⟩) (Below.setCell (p := ⟨(w.heap.size + 1), 5, none⟩) (Below.setCell (p := ⟨(w.heap.size + 1), 4, none⟩) (Below.setCell (p := ⟨(w.heap.size + 1), 3, none⟩) (Below.setCell (p := ⟨(w.heap.size + 1), 2, none⟩) (Below.setCell (p := ⟨(w.heap.size + 1), 1, none⟩) (Below.setCell (p := ⟨(w.heap.size + 1), 0, none⟩) (HB1.out) ((by show w.heap.size ≤ w.heap.size + 1; omega)) (.int .i64 0)) ((by show w.heap.size ≤ w.heap.size + 1; omega)) (.int .i64 0)) ((by show w.heap.size ≤ w.heap.size + 1; omega)) (.int .i64 0)) ((by show w.heap.size ≤ w.heap.size + 1; omega)) (.string ⟨#[]⟩)) ((by show w.heap.size ≤ w.heap.size + 1; omega)) (.int .i64 0)) ((by show w.heap.size ≤ w.heap.size + 1; omega)) (.int .i64 0)) ((by show w.heap.size ≤ w.heap.size + 1; omega)) (.int .u64 0)) ((by show w.heap.size ≤ w.heap.size + 1 + 1; omega)) (.int .i64 0)) ((by show w.heap.size ≤ w.heap.size + 1 + 1; omega)) (.int .i64 0)) ((by show w.heap.size ≤ w.heap.size + 1 + 1; omega)) (.string ⟨#[]⟩)
    exact bodyPost_ret (v := .tuple #[.agg zSes, .agg zMsg, .int .i64 1]) (results_cct (P := Tryd.prog) (p := 4) (q := 5) (r := 6) rfl _ _ (w.heap.size + 1) (w.heap.size + 1 + 1) 32 42 zSes zMsg _ _ rfl hL1 Tryd.underlying32 rfl infoSes rfl hL2 Tryd.underlying42 rfl infoMsg) rfl ⟨rfl, hBL⟩
end Go.Proofs.YtbhagfdkipgggaaDoor
namespace Go.Proofs.YtbhagfdkipgggaaDoor
open Go.RowKit Go.Shelf
attribute [local go_sem] Oper.semAt_some
theorem open_kinds (k ad b : List UInt8) : (openL k ad b).2 = 0 ∨ (openL k ad b).2 = 5 ∨ (openL k ad b).2 = 8 := by
  unfold openL
  split
  · exact Or.inr (Or.inl rfl)
  · dsimp only
    split
    · split
      · exact Or.inl rfl
      · exact Or.inr (Or.inr rfl)
    · exact Or.inr (Or.inr rfl)
set_option maxRecDepth 100000 in
set_option maxHeartbeats 1600000 in
theorem receive_any (w : World) (s : Ses) (m : Msg) (hs : s.Fits) (hm : m.text.size ≤ 1000000) (hK : KAt w 1) :
    Calls Tryd.prog 19 #[sesV s, msgV m] w fun e w' => e = .returned (.tuple #[sesV (receiveP s m).1, .string (receiveP s m).2.1, .int .i64 ((receiveP s m).2.2 : Nat)]) ∧ Below w.heap.size w w' := by
  have HV : Hid (∀ wx, Calls Tryd.prog 21 #[sesV s] wx fun e w' => e = .returned (.bool (validP s)) ∧ Below wx.heap.size wx w') := fun wx => valid_any wx s hs
  have HF : Hid (∀ wx, Calls Tryd.prog 25 #[sesV s, .int .i64 m.num] wx fun e w' => e = .returned (.bool (freshP s m.num)) ∧ Below wx.heap.size wx w') := fun wx => fresh_any wx s m.num hs
  have HMK : Hid (∀ wx, Calls Tryd.prog 23 #[sesV s, .int .i64 m.num] wx fun e w' => e = .returned (sesV (markP s m.num)) ∧ Below wx.heap.size wx w') := fun wx => mark_any wx s m.num hs
  by_cases hv : validP s = true
  · obtain ⟨p1, p2, _, _, p5, p6, _, _, _, _⟩ := valid_parts hv
    rw [hv] at HV
    by_cases hid : m.sess = s.id
    · by_cases hf : freshP s m.num = true
      · obtain ⟨n1, n2⟩ := fresh_parts hf
        rw [hf] at HF
        have hJ : Hid (receiveP s m = if (openP s m).2 = 0 then (markP s m.num, txt (openP s m).1, 0) else (noSes, noT, (openP s m).2)) := by unfold Hid receiveP; rw [if_pos hv, if_pos hid, if_pos hf]
        obtain ⟨CX, hCX⟩ : ∃ CX, ctxP s.id (3 - s.side) m.num = CX := ⟨_, rfl⟩
        have HCT : Hid (∀ wx, Calls Tryd.prog 48 #[.int .i64 s.id, .int .i64 (3 - s.side), .int .i64 m.num] wx fun e w' => e = .returned (.string CX) ∧ Below wx.heap.size wx w') := fun wx => by
          rw [← hCX]
          exact ctx_any wx s.id (3 - s.side) m.num (by omega) (by omega) (by omega)
        have HOP : Hid (∀ wx, Below w.heap.size w wx → Calls Tryd.prog 51 #[.string s.key, .string CX, .string m.text] wx fun e w' => e = .returned (.tuple #[.string (txt (openP s m).1), .int .i64 ((openP s m).2 : Nat)]) ∧ Below wx.heap.size wx w') := fun wx hB => by
          have h := open_any wx s.key CX m.text p6 (by rw [← hCX]; exact ctxP_size _ _ _) hm (hK.below hB)
          rw [show openL (bl s.key) (bl CX) (bl m.text) = openP s m by rw [← hCX]; rfl] at h
          exact h
        have hkind : (openP s m).2 = 0 ∨ (openP s m).2 = 5 ∨ (openP s m).2 = 8 := open_kinds _ _ _
        rw [hJ.out]
        clear hCX hK hJ hv hf hm hs
        generalize openP s m = R at *
        generalize markP s m.num = M at *
        have hsub : IntKind.i64.wrap (3 - s.side) = 3 - s.side := by rcases p5 with h | h <;> rw [h] <;> rfl
        obtain ⟨id, role, side, key, sent, top, seen⟩ := s
        obtain ⟨ms, mn, mt⟩ := m
        obtain ⟨OT, OE⟩ := R
        obtain ⟨xid, xrole, xside, xkey, xsent, xtop, xseen⟩ := M
        unfold sesV sesC at HV HF HMK
        dsimp only at HV HF HMK HCT HOP hid p1 p2 p5 p6 n1 n2 hkind hsub
        subst hid
        unfold msgV msgC sesV sesC
        dsimp only
        generalize txt OT = OX at *
        clear p1 p2 p5 p6 n1 n2
        rcases hkind with rfl | hkind
        · rw [if_pos rfl]
          dsimp only
          go_enter Tryd.func19, Tryd.ntmps19
          go_upto_region 1 with fail
          refine world_is (P := fun W => Code.wp _ _ _ _ W) (fun Wa hWa => ?_)
          have HS0 : Hid (Blk Wa w.heap.size 32 #[.int .i64 ms, .int .i64 role, .int .i64 side, .string key, .int .i64 sent, .int .i64 top, .int .u64 (seen : Int)]) := by unfold Hid; rw [← hWa]; exact ((Blk.new w _ _).alloc _).alloc _
          have HR0 : Hid (Blk Wa (w.heap.size + 1) 42 #[.int .i64 ms, .int .i64 mn, .string mt]) := by unfold Hid; rw [← hWa]; exact (blk_new2 _ _ _ _).alloc _
          have HM0 : Hid (Blk Wa (w.heap.size + 1 + 1) 32 #[.int .i64 0, .int .i64 0, .int .i64 0, .string ⟨#[]⟩, .int .i64 0, .int .i64 0, .int .u64 0]) := by unfold Hid; rw [← hWa]; exact blk_new3 _ _ _ _ _
          have HB0 : Hid (Below w.heap.size w Wa) := by unfold Hid; rw [← hWa]; exact ((Below.refl w.heap.size w).alloc (Nat.le_refl _) _).alloc (by rw [World.size_alloc]; exact Nat.le_succ _) _ |>.alloc (by rw [World.size_alloc, World.size_alloc]; omega) _
          clear hWa
          have c0 := HS0.out.cell 0
          have c1 := HS0.out.cell 1
          have c2 := HS0.out.cell 2
          have c3 := HS0.out.cell 3
          have c4 := HS0.out.cell 4
          have c5 := HS0.out.cell 5
          have c6 := HS0.out.cell 6
          have d0 := HR0.out.cell 0
          have d1 := HR0.out.cell 1
          have d2 := HR0.out.cell 2
          go_upto_region 10 with (first
            | (go_at_call 25; refine (HF.out _).mono ?_; rintro e w2 ⟨rfl, hB⟩; have HS2 := Lib.hid (HS1.out.below hB HS1.out.lt); have HR2 := Lib.hid (HR1.out.below hB HR1.out.lt); have HM2 := Lib.hid (HM1.out.below hB HM1.out.lt); have HB2 := Lib.hid (HB1.out.trans (hB.mono HB1.out.size)); clear hB)
            | (go_at_call 21; refine (HV.out _).mono ?_; rintro e w1 ⟨rfl, hB⟩; have HS1 := Lib.hid (HS0.out.below hB HS0.out.lt); have HR1 := Lib.hid (HR0.out.below hB HR0.out.lt); have HM1 := Lib.hid (HM0.out.below hB HM0.out.lt); have HB1 := Lib.hid (HB0.out.trans (hB.mono HB0.out.size)); clear hB; have c0 := HS1.out.cell 0; have c1 := HS1.out.cell 1; have c2 := HS1.out.cell 2; have c3 := HS1.out.cell 3; have c4 := HS1.out.cell 4; have c5 := HS1.out.cell 5; have c6 := HS1.out.cell 6; have d0 := HR1.out.cell 0; have d1 := HR1.out.cell 1; have d2 := HR1.out.cell 2)
            | fail)
          clear HS0 HR0 HM0 HB0 HS1 HR1 HM1 HB1 HV HF
          clear c0 c1 c2 c3 c4 c5 c6 d0 d1 d2
          have HH : Hid (∀ wx, Below w2.heap.size w2 wx → wx.cell? ⟨w.heap.size, 0, none⟩ = some (.int .i64 ms) ∧ wx.cell? ⟨w.heap.size, 2, none⟩ = some (.int .i64 side) ∧ wx.cell? ⟨w.heap.size, 3, none⟩ = some (.string key) ∧ wx.cell? ⟨(w.heap.size + 1), 1, none⟩ = some (.int .i64 mn) ∧ wx.cell? ⟨(w.heap.size + 1), 2, none⟩ = some (.string mt)) := fun wx hB => by
            have hh := HS2.out.below hB HS2.out.lt
            have hr := HR2.out.below hB HR2.out.lt
            exact ⟨hh.cell 0, hh.cell 2, hh.cell 3, hr.cell 1, hr.cell 2⟩
          refine wp_region_held_drew (S := (fun w' => w'.cell? ⟨w.heap.size, 0, none⟩ = some (.int .i64 ms) ∧ w'.cell? ⟨w.heap.size, 2, none⟩ = some (.int .i64 side) ∧ w'.cell? ⟨w.heap.size, 3, none⟩ = some (.string key) ∧ w'.cell? ⟨(w.heap.size + 1), 1, none⟩ = some (.int .i64 mn) ∧ w'.cell? ⟨(w.heap.size + 1), 2, none⟩ = some (.string mt))) (by kernel_rfl) (HH.out _ (Below.refl w2.heap.size w2).drew) (fun hHeld => ?_)
          refine' wpAnyH_take (i := 0) (v := ?v0A) rfl (by kernel_rfl) (by kernel_rfl) (by kernel_rfl) (fun _ _ _ h => h) (Or.inl ⟨by rfl, ?hy0A⟩) hHeld ?rest0A
          case hy0A => intro w hSw; (try dsimp only at hSw); go_simp; all_goals with_reducible rfl
          try simp only [sA, gA]
          refine' wpAnyH_take (i := 1) (v := ?v1A) rfl (by kernel_rfl) (by kernel_rfl) (by kernel_rfl) (fun _ _ _ h => h) (Or.inl ⟨by rfl, ?hy1A⟩) hHeld ?rest1A
          case hy1A => intro w hSw; (try dsimp only at hSw); go_simp; all_goals with_reducible rfl
          try simp only [sA, gA]
          refine' wpAnyH_take (i := 2) (v := ?v2A) rfl (by kernel_rfl) (by kernel_rfl) (by kernel_rfl) (fun _ _ _ h => h) (Or.inl ⟨by rfl, ?hy2A⟩) hHeld ?rest2A
          case hy2A => intro w hSw; (try dsimp only at hSw); go_simp; all_goals with_reducible rfl
          try simp only [sA, gA]
          refine' wpAnyH_take (i := 3) (v := ?v3A) rfl (by kernel_rfl) (by kernel_rfl) (by kernel_rfl) (fun _ _ _ h => h) (Or.inl ⟨by rfl, ?hy3A⟩) hHeld ?rest3A
          case hy3A => intro w hSw; (try dsimp only at hSw); go_simp; all_goals with_reducible rfl
          try simp only [sA, gA]
          refine' wpAnyH_take (i := 4) (v := ?v4A) rfl (by kernel_rfl) (by kernel_rfl) (by kernel_rfl) (fun _ _ _ h => h) (Or.inl ⟨by rfl, ?hy4A⟩) hHeld ?rest4A
          case hy4A => intro w hSw; (try dsimp only at hSw); go_simp; all_goals with_reducible rfl
          try simp only [sA, gA]
          refine' wpAnyH_take (i := 5) (v := ?v5A) rfl (by kernel_rfl) (by kernel_rfl) (by kernel_rfl) (fun _ _ _ h => h) (Or.inl ⟨by rfl, ?hy5A⟩) hHeld ?rest5A
          case hy5A => intro w hSw; (try dsimp only at hSw); go_simp; all_goals with_reducible rfl
          try simp only [sA, gA]
          refine' wpAnyH_take (i := 6) (v := ?v6A) rfl (by kernel_rfl) (by kernel_rfl) (by kernel_rfl) (fun _ _ _ h => h) (Or.inl ⟨by rfl, ?hy6A⟩) hHeld ?rest6A
          case hy6A => intro w hSw; (try dsimp only at hSw); go_simp; all_goals with_reducible rfl
          try simp only [sA, gA]
          refine' wpAnyH_take (i := 7) (v := ?v7A) rfl (by kernel_rfl) (by kernel_rfl) (by kernel_rfl) (fun _ _ _ h => h) (Or.inl ⟨by rfl, ?hy7A⟩) hHeld ?rest7A
          case hy7A => intro w hSw; (try dsimp only at hSw); go_simp; all_goals with_reducible rfl
          try simp only [sA, gA]
          refine' wpAnyH_take (i := 8) (v := ?v8A) rfl (by kernel_rfl) (by kernel_rfl) (by kernel_rfl) (fun _ _ _ h => h) (Or.inl ⟨by rfl, ?hy8A⟩) hHeld ?rest8A
          case hy8A => intro w hSw; (try dsimp only at hSw); go_simp; all_goals with_reducible rfl
          try simp only [sA, gA]
          refine' wpAnyH_take (i := 10) (v := ?v10A) rfl (by kernel_rfl) (by kernel_rfl) (by kernel_rfl) (fun _ _ _ h => h) (Or.inl ⟨by rfl, ?hy10A⟩) hHeld ?rest10A
          case hy10A => intro w hSw; (try dsimp only at hSw); go_simp; all_goals with_reducible rfl
          try simp only [sA, gA]
          refine' wpAnyH_take (i := 11) (v := ?v11A) rfl (by kernel_rfl) (by kernel_rfl) (by kernel_rfl) (fun _ _ _ h => h) (Or.inl ⟨by rfl, ?hy11A⟩) hHeld ?rest11A
          case hy11A => intro w hSw; (try dsimp only at hSw); go_simp; all_goals with_reducible rfl
          try simp only [sA, gA]
          refine wpAnyH_ready (rs := [9]) (by kernel_rfl) (by simp) ?_
          refine AllReadyH.cons rfl (fun K hK => ?_) AllReadyH.nil
          go_simp
          go_at_call 48
          refine (HCT.out _).mono ?_
          rintro e w3 ⟨rfl, hB⟩
          have HB23 := Lib.hid ((Below.refl w2.heap.size w2).drew.trans hB)
          clear hB
          go_wp2_with fail
          refine hK.out _ _ ?_ (fun hHeld2 => ?_)
          · exact HH.out _ HB23.out
          clear hK K hHeld
          have hHeld := hHeld2
          clear hHeld2
          try simp only [sA, gA]
          refine wpAnyH_ready (rs := [12]) (by kernel_rfl) (by simp) ?_
          refine AllReadyH.cons rfl (fun K hK => ?_) AllReadyH.nil
          go_simp
          go_at_call 51
          refine (HOP.out _ (HB2.out.trans (HB23.out.mono HB2.out.size))).mono ?_
          rintro e w4 ⟨rfl, hB⟩
          have HB24 := Lib.hid (HB23.out.trans (hB.mono HB23.out.size))
          clear hB
          go_wp2_with fail
          refine hK.out _ _ ?_ (fun hHeld2 => ?_)
          · exact HH.out _ HB24.out
          clear hK K hHeld
          have hHeld := hHeld2
          clear hHeld2
          try simp only [sA, gA]
          refine' wpAnyH_take (i := 13) (v := ?v13A) rfl (by kernel_rfl) (by kernel_rfl) (by kernel_rfl) (fun _ _ _ h => h) (Or.inl ⟨by rfl, ?hy13A⟩) hHeld ?rest13A
          case hy13A => intro w hSw; (try dsimp only at hSw); go_simp; all_goals with_reducible rfl
          try simp only [sA, gA]
          refine' wpAnyH_take (i := 14) (v := ?v14A) rfl (by kernel_rfl) (by kernel_rfl) (by kernel_rfl) (fun _ _ _ h => h) (Or.inl ⟨by rfl, ?hy14A⟩) hHeld ?rest14A
          case hy14A => intro w hSw; (try dsimp only at hSw); go_simp; all_goals with_reducible rfl
          try simp only [sA, gA]
          refine' wpAnyH_take (i := 15) (v := ?v15A) rfl (by kernel_rfl) (by kernel_rfl) (by kernel_rfl) (fun _ _ _ h => h) (Or.inl ⟨by rfl, ?hy15A⟩) hHeld ?rest15A
          case hy15A => intro w hSw; (try dsimp only at hSw); go_simp; all_goals with_reducible rfl
          try simp only [sA, gA]
          refine' wpAnyH_take (i := 16) (v := ?v16A) rfl (by kernel_rfl) (by kernel_rfl) (by kernel_rfl) (fun _ _ _ h => h) (Or.inl ⟨by rfl, ?hy16A⟩) hHeld ?rest16A
          case hy16A => intro w hSw; (try dsimp only at hSw); go_simp; all_goals with_reducible rfl
          try simp only [sA, gA]
          refine' wpAnyH_take (i := 17) (v := ?v17A) rfl (by kernel_rfl) (by kernel_rfl) (by kernel_rfl) (fun _ _ _ h => h) (Or.inl ⟨by rfl, ?hy17A⟩) hHeld ?rest17A
          case hy17A => intro w hSw; (try dsimp only at hSw); go_simp; all_goals with_reducible rfl
          try simp only [sA, gA]
          refine wpAnyH_done (by kernel_rfl) ?_ _
          clear hHeld
          clear HH
          have HS4 := Lib.hid (HS2.out.below HB24.out HS2.out.lt)
          have HR4 := Lib.hid (HR2.out.below HB24.out HR2.out.lt)
          have HM4 := Lib.hid (HM2.out.below HB24.out HM2.out.lt)
          have HB4 := Lib.hid (HB2.out.trans (HB24.out.mono HB2.out.size))
          have c0 := HS4.out.cell 0
          have c1 := HS4.out.cell 1
          have c2 := HS4.out.cell 2
          have c3 := HS4.out.cell 3
          have c4 := HS4.out.cell 4
          have c5 := HS4.out.cell 5
          have c6 := HS4.out.cell 6
          have d0 := HR4.out.cell 0
          have d1 := HR4.out.cell 1
          have d2 := HR4.out.cell 2
          go_wp2_with (first
            | (go_at_call 23; refine (HMK.out _).mono ?_; rintro e w5 ⟨rfl, hB⟩; have HS5 := Lib.hid (HS4.out.below hB HS4.out.lt); have HR5 := Lib.hid (HR4.out.below hB HR4.out.lt); have HM5 := Lib.hid (HM4.out.below hB HM4.out.lt); have HB5 := Lib.hid (HB4.out.trans (hB.mono HB4.out.size)); clear hB; have z0 := HM5.out.cell 0; have z1 := HM5.out.cell 1; have z2 := HM5.out.cell 2; have z3 := HM5.out.cell 3; have z4 := HM5.out.cell 4; have z5 := HM5.out.cell 5; have z6 := HM5.out.cell 6; have f0 := HM5.out.frozen 0; have f1 := HM5.out.frozen 1; have f2 := HM5.out.frozen 2; have f3 := HM5.out.frozen 3; have f4 := HM5.out.frozen 4; have f5 := HM5.out.frozen 5; have f6 := HM5.out.frozen 6)
            | fail)
          have hL1 := blk7_put HM5.out (.int .i64 xid) (.int .i64 xrole) (.int .i64 xside) (.string xkey) (.int .i64 xsent) (.int .i64 xtop) (.int .u64 (xseen : Int))
          have hBL := Below.setCell (p := ⟨(w.heap.size + 1 + 1), 6, none⟩) (Below.setCell (p := ⟨(w.heap.size + 1 + 1), 5, none⟩) (Below.setCell (p := ⟨(w.heap.size + 1 + 1), 4, none⟩) (Below.setCell (p := ⟨(w.heap.size + 1 + 1), 3, none⟩) (Below.setCell (p := ⟨(w.heap.size + 1 + 1), 2, none⟩) (Below.setCell (p := ⟨(w.heap.size + 1 + 1), 1, none⟩) (Below.setCell (p := ⟨(w.heap.size + 1 + 1), 0, none⟩) (HB5.out) ((by show w.heap.size ≤ w.heap.size + 1 + 1; omega)) (.int .i64 xid)) ((by show w.heap.size ≤ w.heap.size + 1 + 1; omega)) (.int .i64 xrole)) ((by show w.heap.size ≤ w.heap.size + 1 + 1; omega)) (.int .i64 xside)) ((by show w.heap.size ≤ w.heap.size + 1 + 1; omega)) (.string xkey)) ((by show w.heap.size ≤ w.heap.size + 1 + 1; omega)) (.int .i64 xsent)) ((by show w.heap.size ≤ w.heap.size + 1 + 1; omega)) (.int .i64 xtop)) ((by show w.heap.size ≤ w.heap.size + 1 + 1; omega)) (.int .u64 (xseen : Int))
          exact bodyPost_ret (v := .tuple #[.agg #[.int .i64 xid, .int .i64 xrole, .int .i64 xside, .string xkey, .int .i64 xsent, .int .i64 xtop, .int .u64 (xseen : Int)], .string OX, .int .i64 0]) (results_ctt (P := Tryd.prog) (p := 4) (q := 5) (r := 6) rfl _ _ (w.heap.size + 1 + 1) 32 #[.int .i64 xid, .int .i64 xrole, .int .i64 xside, .string xkey, .int .i64 xsent, .int .i64 xtop, .int .u64 (xseen : Int)] _ rfl hL1 Tryd.underlying32 rfl infoSes) rfl ⟨rfl, hBL⟩
        · have hE : OE ≠ 0 := by omega
          have q1 : ((OE : Int) != 0) = true := bne_iff_ne.2 (by omega)
          rw [if_neg hE]
          dsimp only
          clear hkind hE
          go_enter Tryd.func19, Tryd.ntmps19
          go_upto_region 1 with fail
          refine world_is (P := fun W => Code.wp _ _ _ _ W) (fun Wa hWa => ?_)
          have HS0 : Hid (Blk Wa w.heap.size 32 #[.int .i64 ms, .int .i64 role, .int .i64 side, .string key, .int .i64 sent, .int .i64 top, .int .u64 (seen : Int)]) := by unfold Hid; rw [← hWa]; exact ((Blk.new w _ _).alloc _).alloc _
          have HR0 : Hid (Blk Wa (w.heap.size + 1) 42 #[.int .i64 ms, .int .i64 mn, .string mt]) := by unfold Hid; rw [← hWa]; exact (blk_new2 _ _ _ _).alloc _
          have HM0 : Hid (Blk Wa (w.heap.size + 1 + 1) 32 #[.int .i64 0, .int .i64 0, .int .i64 0, .string ⟨#[]⟩, .int .i64 0, .int .i64 0, .int .u64 0]) := by unfold Hid; rw [← hWa]; exact blk_new3 _ _ _ _ _
          have HB0 : Hid (Below w.heap.size w Wa) := by unfold Hid; rw [← hWa]; exact ((Below.refl w.heap.size w).alloc (Nat.le_refl _) _).alloc (by rw [World.size_alloc]; exact Nat.le_succ _) _ |>.alloc (by rw [World.size_alloc, World.size_alloc]; omega) _
          clear hWa
          have c0 := HS0.out.cell 0
          have c1 := HS0.out.cell 1
          have c2 := HS0.out.cell 2
          have c3 := HS0.out.cell 3
          have c4 := HS0.out.cell 4
          have c5 := HS0.out.cell 5
          have c6 := HS0.out.cell 6
          have d0 := HR0.out.cell 0
          have d1 := HR0.out.cell 1
          have d2 := HR0.out.cell 2
          go_upto_region 10 with (first
            | (go_at_call 25; refine (HF.out _).mono ?_; rintro e w2 ⟨rfl, hB⟩; have HS2 := Lib.hid (HS1.out.below hB HS1.out.lt); have HR2 := Lib.hid (HR1.out.below hB HR1.out.lt); have HM2 := Lib.hid (HM1.out.below hB HM1.out.lt); have HB2 := Lib.hid (HB1.out.trans (hB.mono HB1.out.size)); clear hB)
            | (go_at_call 21; refine (HV.out _).mono ?_; rintro e w1 ⟨rfl, hB⟩; have HS1 := Lib.hid (HS0.out.below hB HS0.out.lt); have HR1 := Lib.hid (HR0.out.below hB HR0.out.lt); have HM1 := Lib.hid (HM0.out.below hB HM0.out.lt); have HB1 := Lib.hid (HB0.out.trans (hB.mono HB0.out.size)); clear hB; have c0 := HS1.out.cell 0; have c1 := HS1.out.cell 1; have c2 := HS1.out.cell 2; have c3 := HS1.out.cell 3; have c4 := HS1.out.cell 4; have c5 := HS1.out.cell 5; have c6 := HS1.out.cell 6; have d0 := HR1.out.cell 0; have d1 := HR1.out.cell 1; have d2 := HR1.out.cell 2)
            | fail)
          clear HS0 HR0 HM0 HB0 HS1 HR1 HM1 HB1 HV HF
          clear c0 c1 c2 c3 c4 c5 c6 d0 d1 d2
          have HH : Hid (∀ wx, Below w2.heap.size w2 wx → wx.cell? ⟨w.heap.size, 0, none⟩ = some (.int .i64 ms) ∧ wx.cell? ⟨w.heap.size, 2, none⟩ = some (.int .i64 side) ∧ wx.cell? ⟨w.heap.size, 3, none⟩ = some (.string key) ∧ wx.cell? ⟨(w.heap.size + 1), 1, none⟩ = some (.int .i64 mn) ∧ wx.cell? ⟨(w.heap.size + 1), 2, none⟩ = some (.string mt)) := fun wx hB => by
            have hh := HS2.out.below hB HS2.out.lt
            have hr := HR2.out.below hB HR2.out.lt
            exact ⟨hh.cell 0, hh.cell 2, hh.cell 3, hr.cell 1, hr.cell 2⟩
          refine wp_region_held_drew (S := (fun w' => w'.cell? ⟨w.heap.size, 0, none⟩ = some (.int .i64 ms) ∧ w'.cell? ⟨w.heap.size, 2, none⟩ = some (.int .i64 side) ∧ w'.cell? ⟨w.heap.size, 3, none⟩ = some (.string key) ∧ w'.cell? ⟨(w.heap.size + 1), 1, none⟩ = some (.int .i64 mn) ∧ w'.cell? ⟨(w.heap.size + 1), 2, none⟩ = some (.string mt))) (by kernel_rfl) (HH.out _ (Below.refl w2.heap.size w2).drew) (fun hHeld => ?_)
          refine' wpAnyH_take (i := 0) (v := ?v0B) rfl (by kernel_rfl) (by kernel_rfl) (by kernel_rfl) (fun _ _ _ h => h) (Or.inl ⟨by rfl, ?hy0B⟩) hHeld ?rest0B
          case hy0B => intro w hSw; (try dsimp only at hSw); go_simp; all_goals with_reducible rfl
          try simp only [sA, gA]
          refine' wpAnyH_take (i := 1) (v := ?v1B) rfl (by kernel_rfl) (by kernel_rfl) (by kernel_rfl) (fun _ _ _ h => h) (Or.inl ⟨by rfl, ?hy1B⟩) hHeld ?rest1B
          case hy1B => intro w hSw; (try dsimp only at hSw); go_simp; all_goals with_reducible rfl
          try simp only [sA, gA]
          refine' wpAnyH_take (i := 2) (v := ?v2B) rfl (by kernel_rfl) (by kernel_rfl) (by kernel_rfl) (fun _ _ _ h => h) (Or.inl ⟨by rfl, ?hy2B⟩) hHeld ?rest2B
          case hy2B => intro w hSw; (try dsimp only at hSw); go_simp; all_goals with_reducible rfl
          try simp only [sA, gA]
          refine' wpAnyH_take (i := 3) (v := ?v3B) rfl (by kernel_rfl) (by kernel_rfl) (by kernel_rfl) (fun _ _ _ h => h) (Or.inl ⟨by rfl, ?hy3B⟩) hHeld ?rest3B
          case hy3B => intro w hSw; (try dsimp only at hSw); go_simp; all_goals with_reducible rfl
          try simp only [sA, gA]
          refine' wpAnyH_take (i := 4) (v := ?v4B) rfl (by kernel_rfl) (by kernel_rfl) (by kernel_rfl) (fun _ _ _ h => h) (Or.inl ⟨by rfl, ?hy4B⟩) hHeld ?rest4B
          case hy4B => intro w hSw; (try dsimp only at hSw); go_simp; all_goals with_reducible rfl
          try simp only [sA, gA]
          refine' wpAnyH_take (i := 5) (v := ?v5B) rfl (by kernel_rfl) (by kernel_rfl) (by kernel_rfl) (fun _ _ _ h => h) (Or.inl ⟨by rfl, ?hy5B⟩) hHeld ?rest5B
          case hy5B => intro w hSw; (try dsimp only at hSw); go_simp; all_goals with_reducible rfl
          try simp only [sA, gA]
          refine' wpAnyH_take (i := 6) (v := ?v6B) rfl (by kernel_rfl) (by kernel_rfl) (by kernel_rfl) (fun _ _ _ h => h) (Or.inl ⟨by rfl, ?hy6B⟩) hHeld ?rest6B
          case hy6B => intro w hSw; (try dsimp only at hSw); go_simp; all_goals with_reducible rfl
          try simp only [sA, gA]
          refine' wpAnyH_take (i := 7) (v := ?v7B) rfl (by kernel_rfl) (by kernel_rfl) (by kernel_rfl) (fun _ _ _ h => h) (Or.inl ⟨by rfl, ?hy7B⟩) hHeld ?rest7B
          case hy7B => intro w hSw; (try dsimp only at hSw); go_simp; all_goals with_reducible rfl
          try simp only [sA, gA]
          refine' wpAnyH_take (i := 8) (v := ?v8B) rfl (by kernel_rfl) (by kernel_rfl) (by kernel_rfl) (fun _ _ _ h => h) (Or.inl ⟨by rfl, ?hy8B⟩) hHeld ?rest8B
          case hy8B => intro w hSw; (try dsimp only at hSw); go_simp; all_goals with_reducible rfl
          try simp only [sA, gA]
          refine' wpAnyH_take (i := 10) (v := ?v10B) rfl (by kernel_rfl) (by kernel_rfl) (by kernel_rfl) (fun _ _ _ h => h) (Or.inl ⟨by rfl, ?hy10B⟩) hHeld ?rest10B
          case hy10B => intro w hSw; (try dsimp only at hSw); go_simp; all_goals with_reducible rfl
          try simp only [sA, gA]
          refine' wpAnyH_take (i := 11) (v := ?v11B) rfl (by kernel_rfl) (by kernel_rfl) (by kernel_rfl) (fun _ _ _ h => h) (Or.inl ⟨by rfl, ?hy11B⟩) hHeld ?rest11B
          case hy11B => intro w hSw; (try dsimp only at hSw); go_simp; all_goals with_reducible rfl
          try simp only [sA, gA]
          refine wpAnyH_ready (rs := [9]) (by kernel_rfl) (by simp) ?_
          refine AllReadyH.cons rfl (fun K hK => ?_) AllReadyH.nil
          go_simp
          go_at_call 48
          refine (HCT.out _).mono ?_
          rintro e w3 ⟨rfl, hB⟩
          have HB23 := Lib.hid ((Below.refl w2.heap.size w2).drew.trans hB)
          clear hB
          go_wp2_with fail
          refine hK.out _ _ ?_ (fun hHeld2 => ?_)
          · exact HH.out _ HB23.out
          clear hK K hHeld
          have hHeld := hHeld2
          clear hHeld2
          try simp only [sA, gA]
          refine wpAnyH_ready (rs := [12]) (by kernel_rfl) (by simp) ?_
          refine AllReadyH.cons rfl (fun K hK => ?_) AllReadyH.nil
          go_simp
          go_at_call 51
          refine (HOP.out _ (HB2.out.trans (HB23.out.mono HB2.out.size))).mono ?_
          rintro e w4 ⟨rfl, hB⟩
          have HB24 := Lib.hid (HB23.out.trans (hB.mono HB23.out.size))
          clear hB
          go_wp2_with fail
          refine hK.out _ _ ?_ (fun hHeld2 => ?_)
          · exact HH.out _ HB24.out
          clear hK K hHeld
          have hHeld := hHeld2
          clear hHeld2
          try simp only [sA, gA]
          refine' wpAnyH_take (i := 13) (v := ?v13B) rfl (by kernel_rfl) (by kernel_rfl) (by kernel_rfl) (fun _ _ _ h => h) (Or.inl ⟨by rfl, ?hy13B⟩) hHeld ?rest13B
          case hy13B => intro w hSw; (try dsimp only at hSw); go_simp; all_goals with_reducible rfl
          try simp only [sA, gA]
          refine' wpAnyH_take (i := 14) (v := ?v14B) rfl (by kernel_rfl) (by kernel_rfl) (by kernel_rfl) (fun _ _ _ h => h) (Or.inl ⟨by rfl, ?hy14B⟩) hHeld ?rest14B
          case hy14B => intro w hSw; (try dsimp only at hSw); go_simp; all_goals with_reducible rfl
          try simp only [sA, gA]
          refine' wpAnyH_take (i := 15) (v := ?v15B) rfl (by kernel_rfl) (by kernel_rfl) (by kernel_rfl) (fun _ _ _ h => h) (Or.inl ⟨by rfl, ?hy15B⟩) hHeld ?rest15B
          case hy15B => intro w hSw; (try dsimp only at hSw); go_simp; all_goals with_reducible rfl
          try simp only [sA, gA]
          refine' wpAnyH_take (i := 16) (v := ?v16B) rfl (by kernel_rfl) (by kernel_rfl) (by kernel_rfl) (fun _ _ _ h => h) (Or.inl ⟨by rfl, ?hy16B⟩) hHeld ?rest16B
          case hy16B => intro w hSw; (try dsimp only at hSw); go_simp; all_goals with_reducible rfl
          try simp only [sA, gA]
          refine' wpAnyH_take (i := 17) (v := ?v17B) rfl (by kernel_rfl) (by kernel_rfl) (by kernel_rfl) (fun _ _ _ h => h) (Or.inl ⟨by rfl, ?hy17B⟩) hHeld ?rest17B
          case hy17B => intro w hSw; (try dsimp only at hSw); go_simp; all_goals with_reducible rfl
          try simp only [sA, gA]
          refine wpAnyH_done (by kernel_rfl) ?_ _
          clear hHeld
          clear HH
          have HS4 := Lib.hid (HS2.out.below HB24.out HS2.out.lt)
          have HR4 := Lib.hid (HR2.out.below HB24.out HR2.out.lt)
          have HM4 := Lib.hid (HM2.out.below HB24.out HM2.out.lt)
          have HB4 := Lib.hid (HB2.out.trans (HB24.out.mono HB2.out.size))
          have z0 := HM4.out.cell 0
          have z1 := HM4.out.cell 1
          have z2 := HM4.out.cell 2
          have z3 := HM4.out.cell 3
          have z4 := HM4.out.cell 4
          have z5 := HM4.out.cell 5
          have z6 := HM4.out.cell 6
          have f0 := HM4.out.frozen 0
          have f1 := HM4.out.frozen 1
          have f2 := HM4.out.frozen 2
          have f3 := HM4.out.frozen 3
          have f4 := HM4.out.frozen 4
          have f5 := HM4.out.frozen 5
          have f6 := HM4.out.frozen 6
          go_wp2_with fail
          have hL1 := blk7_same HM4.out
          have hBL := Below.setCell (p := ⟨(w.heap.size + 1 + 1), 6, none⟩) (Below.setCell (p := ⟨(w.heap.size + 1 + 1), 5, none⟩) (Below.setCell (p := ⟨(w.heap.size + 1 + 1), 4, none⟩) (Below.setCell (p := ⟨(w.heap.size + 1 + 1), 3, none⟩) (Below.setCell (p := ⟨(w.heap.size + 1 + 1), 2, none⟩) (Below.setCell (p := ⟨(w.heap.size + 1 + 1), 1, none⟩) (Below.setCell (p := ⟨(w.heap.size + 1 + 1), 0, none⟩) (HB4.out) ((by show w.heap.size ≤ w.heap.size + 1 + 1; omega)) (.int .i64 0)) ((by show w.heap.size ≤ w.heap.size + 1 + 1; omega)) (.int .i64 0)) ((by show w.heap.size ≤ w.heap.size + 1 + 1; omega)) (.int .i64 0)) ((by show w.heap.size ≤ w.heap.size + 1 + 1; omega)) (.string ⟨#[]⟩)) ((by show w.heap.size ≤ w.heap.size + 1 + 1; omega)) (.int .i64 0)) ((by show w.heap.size ≤ w.heap.size + 1 + 1; omega)) (.int .i64 0)) ((by show w.heap.size ≤ w.heap.size + 1 + 1; omega)) (.int .u64 0)
          exact bodyPost_ret (v := .tuple #[.agg zSes, .string ⟨#[]⟩, .int .i64 (OE : Int)]) (results_ctt (P := Tryd.prog) (p := 4) (q := 5) (r := 6) rfl _ _ (w.heap.size + 1 + 1) 32 zSes _ rfl hL1 Tryd.underlying32 rfl infoSes) rfl ⟨rfl, hBL⟩
      · have hf2 : freshP s m.num = false := by simpa using hf
        have hJ : receiveP s m = (noSes, noT, 17) := by unfold receiveP; rw [if_pos hv, if_pos hid, if_neg hf]
        rw [hJ]
        rw [hf2] at HF
        clear hJ hv hf hf2 hm hs hK HMK p1 p2 p5 p6
        obtain ⟨id, role, side, key, sent, top, seen⟩ := s
        obtain ⟨ms, mn, mt⟩ := m
        unfold sesV sesC at HV HF
        dsimp only at HV HF hid
        subst hid
        unfold msgV msgC sesV sesC
        dsimp only
        go_enter Tryd.func19, Tryd.ntmps19
        go_upto_region 1 with fail
        refine world_is (P := fun W => Code.wp _ _ _ _ W) (fun Wa hWa => ?_)
        have HS0 : Hid (Blk Wa w.heap.size 32 #[.int .i64 ms, .int .i64 role, .int .i64 side, .string key, .int .i64 sent, .int .i64 top, .int .u64 (seen : Int)]) := by unfold Hid; rw [← hWa]; exact ((Blk.new w _ _).alloc _).alloc _
        have HR0 : Hid (Blk Wa (w.heap.size + 1) 42 #[.int .i64 ms, .int .i64 mn, .string mt]) := by unfold Hid; rw [← hWa]; exact (blk_new2 _ _ _ _).alloc _
        have HM0 : Hid (Blk Wa (w.heap.size + 1 + 1) 32 #[.int .i64 0, .int .i64 0, .int .i64 0, .string ⟨#[]⟩, .int .i64 0, .int .i64 0, .int .u64 0]) := by unfold Hid; rw [← hWa]; exact blk_new3 _ _ _ _ _
        have HB0 : Hid (Below w.heap.size w Wa) := by unfold Hid; rw [← hWa]; exact ((Below.refl w.heap.size w).alloc (Nat.le_refl _) _).alloc (by rw [World.size_alloc]; exact Nat.le_succ _) _ |>.alloc (by rw [World.size_alloc, World.size_alloc]; omega) _
        clear hWa
        have c0 := HS0.out.cell 0
        have c1 := HS0.out.cell 1
        have c2 := HS0.out.cell 2
        have c3 := HS0.out.cell 3
        have c4 := HS0.out.cell 4
        have c5 := HS0.out.cell 5
        have c6 := HS0.out.cell 6
        have d0 := HR0.out.cell 0
        have d1 := HR0.out.cell 1
        have d2 := HR0.out.cell 2
        go_wp2_with (first
          | (go_at_call 25; refine (HF.out _).mono ?_; rintro e w2 ⟨rfl, hB⟩; have HS2 := Lib.hid (HS1.out.below hB HS1.out.lt); have HR2 := Lib.hid (HR1.out.below hB HR1.out.lt); have HM2 := Lib.hid (HM1.out.below hB HM1.out.lt); have HB2 := Lib.hid (HB1.out.trans (hB.mono HB1.out.size)); clear hB; have z0 := HM2.out.cell 0; have z1 := HM2.out.cell 1; have z2 := HM2.out.cell 2; have z3 := HM2.out.cell 3; have z4 := HM2.out.cell 4; have z5 := HM2.out.cell 5; have z6 := HM2.out.cell 6; have f0 := HM2.out.frozen 0; have f1 := HM2.out.frozen 1; have f2 := HM2.out.frozen 2; have f3 := HM2.out.frozen 3; have f4 := HM2.out.frozen 4; have f5 := HM2.out.frozen 5; have f6 := HM2.out.frozen 6)
          | (go_at_call 21; refine (HV.out _).mono ?_; rintro e w1 ⟨rfl, hB⟩; have HS1 := Lib.hid (HS0.out.below hB HS0.out.lt); have HR1 := Lib.hid (HR0.out.below hB HR0.out.lt); have HM1 := Lib.hid (HM0.out.below hB HM0.out.lt); have HB1 := Lib.hid (HB0.out.trans (hB.mono HB0.out.size)); clear hB; have c0 := HS1.out.cell 0; have c1 := HS1.out.cell 1; have c2 := HS1.out.cell 2; have c3 := HS1.out.cell 3; have c4 := HS1.out.cell 4; have c5 := HS1.out.cell 5; have c6 := HS1.out.cell 6; have d0 := HR1.out.cell 0; have d1 := HR1.out.cell 1; have d2 := HR1.out.cell 2)
          | fail)
        have hL1 := blk7_same HM2.out
        have hBL := Below.setCell (p := ⟨(w.heap.size + 1 + 1), 6, none⟩) (Below.setCell (p := ⟨(w.heap.size + 1 + 1), 5, none⟩) (Below.setCell (p := ⟨(w.heap.size + 1 + 1), 4, none⟩) (Below.setCell (p := ⟨(w.heap.size + 1 + 1), 3, none⟩) (Below.setCell (p := ⟨(w.heap.size + 1 + 1), 2, none⟩) (Below.setCell (p := ⟨(w.heap.size + 1 + 1), 1, none⟩) (Below.setCell (p := ⟨(w.heap.size + 1 + 1), 0, none⟩) (HB2.out) ((by show w.heap.size ≤ w.heap.size + 1 + 1; omega)) (.int .i64 0)) ((by show w.heap.size ≤ w.heap.size + 1 + 1; omega)) (.int .i64 0)) ((by show w.heap.size ≤ w.heap.size + 1 + 1; omega)) (.int .i64 0)) ((by show w.heap.size ≤ w.heap.size + 1 + 1; omega)) (.string ⟨#[]⟩)) ((by show w.heap.size ≤ w.heap.size + 1 + 1; omega)) (.int .i64 0)) ((by show w.heap.size ≤ w.heap.size + 1 + 1; omega)) (.int .i64 0)) ((by show w.heap.size ≤ w.heap.size + 1 + 1; omega)) (.int .u64 0)
        exact bodyPost_ret (v := .tuple #[.agg zSes, .string ⟨#[]⟩, .int .i64 17]) (results_ctt (P := Tryd.prog) (p := 4) (q := 5) (r := 6) rfl _ _ (w.heap.size + 1 + 1) 32 zSes _ rfl hL1 Tryd.underlying32 rfl infoSes) rfl ⟨rfl, hBL⟩
    · have hJ : receiveP s m = (noSes, noT, 11) := by unfold receiveP; rw [if_pos hv, if_neg hid]
      rw [hJ]
      clear hJ hv hm hs hK HF HMK p1 p2 p5 p6
      obtain ⟨id, role, side, key, sent, top, seen⟩ := s
      obtain ⟨ms, mn, mt⟩ := m
      unfold sesV sesC at HV
      dsimp only at HV hid
      have q1 : decide (ms = id) = false := decide_eq_false hid
      unfold msgV msgC sesV sesC
      dsimp only
      go_enter Tryd.func19, Tryd.ntmps19
      go_upto_region 1 with fail
      refine world_is (P := fun W => Code.wp _ _ _ _ W) (fun Wa hWa => ?_)
      have HS0 : Hid (Blk Wa w.heap.size 32 #[.int .i64 id, .int .i64 role, .int .i64 side, .string key, .int .i64 sent, .int .i64 top, .int .u64 (seen : Int)]) := by unfold Hid; rw [← hWa]; exact ((Blk.new w _ _).alloc _).alloc _
      have HR0 : Hid (Blk Wa (w.heap.size + 1) 42 #[.int .i64 ms, .int .i64 mn, .string mt]) := by unfold Hid; rw [← hWa]; exact (blk_new2 _ _ _ _).alloc _
      have HM0 : Hid (Blk Wa (w.heap.size + 1 + 1) 32 #[.int .i64 0, .int .i64 0, .int .i64 0, .string ⟨#[]⟩, .int .i64 0, .int .i64 0, .int .u64 0]) := by unfold Hid; rw [← hWa]; exact blk_new3 _ _ _ _ _
      have HB0 : Hid (Below w.heap.size w Wa) := by unfold Hid; rw [← hWa]; exact ((Below.refl w.heap.size w).alloc (Nat.le_refl _) _).alloc (by rw [World.size_alloc]; exact Nat.le_succ _) _ |>.alloc (by rw [World.size_alloc, World.size_alloc]; omega) _
      clear hWa
      have c0 := HS0.out.cell 0
      have c1 := HS0.out.cell 1
      have c2 := HS0.out.cell 2
      have c3 := HS0.out.cell 3
      have c4 := HS0.out.cell 4
      have c5 := HS0.out.cell 5
      have c6 := HS0.out.cell 6
      have d0 := HR0.out.cell 0
      have d1 := HR0.out.cell 1
      have d2 := HR0.out.cell 2
      go_wp2_with (first
        | (go_at_call 21; refine (HV.out _).mono ?_; rintro e w1 ⟨rfl, hB⟩; have HS1 := Lib.hid (HS0.out.below hB HS0.out.lt); have HR1 := Lib.hid (HR0.out.below hB HR0.out.lt); have HM1 := Lib.hid (HM0.out.below hB HM0.out.lt); have HB1 := Lib.hid (HB0.out.trans (hB.mono HB0.out.size)); clear hB; have c0 := HS1.out.cell 0; have d0 := HR1.out.cell 0; have z0 := HM1.out.cell 0; have z1 := HM1.out.cell 1; have z2 := HM1.out.cell 2; have z3 := HM1.out.cell 3; have z4 := HM1.out.cell 4; have z5 := HM1.out.cell 5; have z6 := HM1.out.cell 6; have f0 := HM1.out.frozen 0; have f1 := HM1.out.frozen 1; have f2 := HM1.out.frozen 2; have f3 := HM1.out.frozen 3; have f4 := HM1.out.frozen 4; have f5 := HM1.out.frozen 5; have f6 := HM1.out.frozen 6)
        | fail)
      have hL1 := blk7_same HM1.out
      have hBL := Below.setCell (p := ⟨(w.heap.size + 1 + 1), 6, none⟩) (Below.setCell (p := ⟨(w.heap.size + 1 + 1), 5, none⟩) (Below.setCell (p := ⟨(w.heap.size + 1 + 1), 4, none⟩) (Below.setCell (p := ⟨(w.heap.size + 1 + 1), 3, none⟩) (Below.setCell (p := ⟨(w.heap.size + 1 + 1), 2, none⟩) (Below.setCell (p := ⟨(w.heap.size + 1 + 1), 1, none⟩) (Below.setCell (p := ⟨(w.heap.size + 1 + 1), 0, none⟩) (HB1.out) ((by show w.heap.size ≤ w.heap.size + 1 + 1; omega)) (.int .i64 0)) ((by show w.heap.size ≤ w.heap.size + 1 + 1; omega)) (.int .i64 0)) ((by show w.heap.size ≤ w.heap.size + 1 + 1; omega)) (.int .i64 0)) ((by show w.heap.size ≤ w.heap.size + 1 + 1; omega)) (.string ⟨#[]⟩)) ((by show w.heap.size ≤ w.heap.size + 1 + 1; omega)) (.int .i64 0)) ((by show w.heap.size ≤ w.heap.size + 1 + 1; omega)) (.int .i64 0)) ((by show w.heap.size ≤ w.heap.size + 1 + 1; omega)) (.int .u64 0)
      exact bodyPost_ret (v := .tuple #[.agg zSes, .string ⟨#[]⟩, .int .i64 11]) (results_ctt (P := Tryd.prog) (p := 4) (q := 5) (r := 6) rfl _ _ (w.heap.size + 1 + 1) 32 zSes _ rfl hL1 Tryd.underlying32 rfl infoSes) rfl ⟨rfl, hBL⟩
  · have hv2 : validP s = false := by simpa using hv
    have hJ : receiveP s m = (noSes, noT, 1) := by unfold receiveP; rw [if_neg hv]
    rw [hJ]
    rw [hv2] at HV
    clear hJ hv hv2 hs hK hm HF HMK
    obtain ⟨id, role, side, key, sent, top, seen⟩ := s
    obtain ⟨ms, mn, mt⟩ := m
    unfold msgV msgC
    unfold sesV sesC at HV ⊢
    dsimp only at HV ⊢
    go_enter Tryd.func19, Tryd.ntmps19
    go_upto_region 1 with fail
    refine world_is (P := fun W => Code.wp _ _ _ _ W) (fun Wa hWa => ?_)
    have HS0 : Hid (Blk Wa w.heap.size 32 #[.int .i64 id, .int .i64 role, .int .i64 side, .string key, .int .i64 sent, .int .i64 top, .int .u64 (seen : Int)]) := by unfold Hid; rw [← hWa]; exact ((Blk.new w _ _).alloc _).alloc _
    have HR0 : Hid (Blk Wa (w.heap.size + 1) 42 #[.int .i64 ms, .int .i64 mn, .string mt]) := by unfold Hid; rw [← hWa]; exact (blk_new2 _ _ _ _).alloc _
    have HM0 : Hid (Blk Wa (w.heap.size + 1 + 1) 32 #[.int .i64 0, .int .i64 0, .int .i64 0, .string ⟨#[]⟩, .int .i64 0, .int .i64 0, .int .u64 0]) := by unfold Hid; rw [← hWa]; exact blk_new3 _ _ _ _ _
    have HB0 : Hid (Below w.heap.size w Wa) := by unfold Hid; rw [← hWa]; exact ((Below.refl w.heap.size w).alloc (Nat.le_refl _) _).alloc (by rw [World.size_alloc]; exact Nat.le_succ _) _ |>.alloc (by rw [World.size_alloc, World.size_alloc]; omega) _
    clear hWa
    have c0 := HS0.out.cell 0
    have c1 := HS0.out.cell 1
    have c2 := HS0.out.cell 2
    have c3 := HS0.out.cell 3
    have c4 := HS0.out.cell 4
    have c5 := HS0.out.cell 5
    have c6 := HS0.out.cell 6
    have d0 := HR0.out.cell 0
    have d1 := HR0.out.cell 1
    have d2 := HR0.out.cell 2
    go_wp2_with (first
      | (go_at_call 21; refine (HV.out _).mono ?_; rintro e w1 ⟨rfl, hB⟩; have HS1 := Lib.hid (HS0.out.below hB HS0.out.lt); have HR1 := Lib.hid (HR0.out.below hB HR0.out.lt); have HM1 := Lib.hid (HM0.out.below hB HM0.out.lt); have HB1 := Lib.hid (HB0.out.trans (hB.mono HB0.out.size)); clear hB; have z0 := HM1.out.cell 0; have z1 := HM1.out.cell 1; have z2 := HM1.out.cell 2; have z3 := HM1.out.cell 3; have z4 := HM1.out.cell 4; have z5 := HM1.out.cell 5; have z6 := HM1.out.cell 6; have f0 := HM1.out.frozen 0; have f1 := HM1.out.frozen 1; have f2 := HM1.out.frozen 2; have f3 := HM1.out.frozen 3; have f4 := HM1.out.frozen 4; have f5 := HM1.out.frozen 5; have f6 := HM1.out.frozen 6)
      | fail)
    have hL1 := blk7_same HM1.out
    have hBL := Below.setCell (p := ⟨(w.heap.size + 1 + 1), 6, none⟩) (Below.setCell (p := ⟨(w.heap.size + 1 + 1), 5, none⟩) (Below.setCell (p := ⟨(w.heap.size + 1 + 1), 4, none⟩) (Below.setCell (p := ⟨(w.heap.size + 1 + 1), 3, none⟩) (Below.setCell (p := ⟨(w.heap.size + 1 + 1), 2, none⟩) (Below.setCell (p := ⟨(w.heap.size + 1 + 1), 1, none⟩) (Below.setCell (p := ⟨(w.heap.size + 1 + 1), 0, none⟩) (HB1.out) ((by show w.heap.size ≤ w.heap.size + 1 + 1; omega)) (.int .i64 0)) ((by show w.heap.size ≤ w.heap.size + 1 + 1; omega)) (.int .i64 0)) ((by show w.heap.size ≤ w.heap.size + 1 + 1; omega)) (.int .i64 0)) ((by show w.heap.size ≤ w.heap.size + 1 + 1; omega)) (.string ⟨#[]⟩)) ((by show w.heap.size ≤ w.heap.size + 1 + 1; omega)) (.int .i64 0)) ((by show w.heap.size ≤ w.heap.size + 1 + 1; omega)) (.int .i64 0)) ((by show w.heap.size ≤ w.heap.size + 1 + 1; omega)) (.int .u64 0)
    exact bodyPost_ret (v := .tuple #[.agg zSes, .string ⟨#[]⟩, .int .i64 1]) (results_ctt (P := Tryd.prog) (p := 4) (q := 5) (r := 6) rfl _ _ (w.heap.size + 1 + 1) 32 zSes _ rfl hL1 Tryd.underlying32 rfl infoSes) rfl ⟨rfl, hBL⟩
end Go.Proofs.YtbhagfdkipgggaaDoor
