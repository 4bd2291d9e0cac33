/-
  Layer 29 (session): the law of messages.
-/
import Derived.Test.YtbhagfdkipgggaaDoorR29H4
import Derived.Test.YtbhagfdkipgggaaDoorNA
namespace Go.Proofs.YtbhagfdkipgggaaDoor
open Go.RowKit Go.Shelf
attribute [local go_sem] Oper.semAt_some
set_option maxRecDepth 100000 in
set_option maxHeartbeats 12800000 in
theorem law_messages (w : World) (s : Ses) (t : ByteArray) (m : Msg) (hK : KAt w 1) (hK2 : KAt w 0) (hs : s.key.size ≤ 400 → s.Fits) (hmn : -9223372036854775808 ≤ m.num ∧ m.num < 9223372036854775808) :
    Calls Tryd.prog 4 #[sesV s, .string t, msgV m] w fun e w' => e = .returned (.bool true) ∧ Below w.heap.size w w' := by
  have HSA : Hid (∀ wx, Below w.heap.size w wx → Calls Tryd.prog 10 #[] wx fun e w' => e = .returned (.bool true) ∧ Below wx.heap.size wx w') := fun wx hB => sanity_any wx (hK.below hB)
  by_cases z0 : s.key.size ≤ 400
  · by_cases z1 : t.size ≤ 400
    · by_cases z2 : m.text.size ≤ 400
      · have hfit := hs z0
        have HSD : Hid (∀ wx, Below w.heap.size w wx → Calls Tryd.prog 17 #[sesV s, .string t] wx fun e w' => e = .returned (.tuple #[sesV (sendP s t).1, msgV (sendP s t).2.1, .int .i64 ((sendP s t).2.2 : Nat)]) ∧ Below wx.heap.size wx w') := fun wx hB => send_any wx s t hfit (by omega) (hK.below hB)
        have HRS : Hid (∀ wx, Below w.heap.size w wx → Calls Tryd.prog 18 #[sesV s, .string t] wx fun e w' => e = .returned (sldV (sendP s t).1 (sendP s t).2.1 noT (sendP s t).2.2) ∧ Below wx.heap.size wx w') := fun wx hB => rsend_any wx s t hfit (by omega) (hK2.below hB)
        have HRC : Hid (∀ wx, Below w.heap.size w wx → Calls Tryd.prog 19 #[sesV s, msgV m] wx fun e w' => e = .returned (.tuple #[sesV (receiveP s m).1, .string (receiveP s m).2.1, .int .i64 ((receiveP s m).2.2 : Nat)]) ∧ Below wx.heap.size wx w') := fun wx hB => receive_any wx s m hfit (by omega) (hK.below hB)
        have HRR : Hid (∀ wx, Below w.heap.size w wx → Calls Tryd.prog 20 #[sesV s, msgV m] wx fun e w' => e = .returned (sldV (receiveP s m).1 noMsg (receiveP s m).2.1 (receiveP s m).2.2) ∧ Below wx.heap.size wx w') := fun wx hB => rreceive_any wx s m hfit (by omega) hmn (hK2.below hB)
        have HV1 : Hid (∀ wx, Below w.heap.size w wx → Calls Tryd.prog 21 #[sesV s] wx fun e w' => e = .returned (.bool (validP s)) ∧ Below wx.heap.size wx w') := fun wx _ => valid_any wx s hfit
        have HV2 : Hid (∀ wx, Below w.heap.size w wx → Calls Tryd.prog 22 #[sesV s] wx fun e w' => e = .returned (.bool (validP s)) ∧ Below wx.heap.size wx w') := fun wx _ => rvalid_any wx s hfit
        have d0 : decide ((400 : Int) < (s.key.size : Int)) = false := decide_eq_false (by omega)
        have d1 : decide ((400 : Int) < (t.size : Int)) = false := decide_eq_false (by omega)
        have d2 : decide ((400 : Int) < (m.text.size : Int)) = false := decide_eq_false (by omega)
        clear hK hK2 hfit hs hmn z0 z1 z2
        generalize sendP s t = R1 at *
        generalize receiveP s m = R2 at *
        generalize validP s = V at *
        obtain ⟨⟨a0, a1, a2, a3, a4, a5, a6⟩, ⟨b0, b1, b2⟩, E1⟩ := R1
        obtain ⟨⟨c0, c1, c2, c3, c4, c5, c6⟩, TX, E2⟩ := R2
        obtain ⟨id, role, side, key, sent, top, seen⟩ := s
        obtain ⟨ms, mn, mt⟩ := m
        unfold sesV sesC msgV msgC at HSD
        unfold sldV sldC sesV sesC msgC noT at HRS
        unfold sesV sesC msgV msgC at HRC
        unfold sldV sldC sesV sesC msgV msgC noMsg noT at HRR
        unfold sesV sesC at HV1 HV2
        unfold sesV sesC msgV msgC
        simp only [List.cons_append, List.nil_append] at HRS HRR
        dsimp only at HSD HRS HRC HRR HV1 HV2 d0 d1 d2 ⊢
        go_enter Tryd.func4, Tryd.ntmps4
        go_upto_region 1 with fail
        refine world_is (P := fun W => Code.wp _ _ _ _ W) (fun W1 hW1 => ?_)
        have Xs1 : Hid (Blk W1 w.heap.size 32 #[.int .i64 id, .int .i64 role, .int .i64 side, .string key, .int .i64 sent, .int .i64 top, .int .u64 (seen : Int)]) := by unfold Hid; rw [← hW1]; exact (Blk.new w _ _).alloc _
        have Xm1 : Hid (Blk W1 (w.heap.size + 1) 42 #[.int .i64 ms, .int .i64 mn, .string mt]) := by unfold Hid; rw [← hW1]; exact blk_new2 _ _ _ _
        have HB1 : Hid (Below w.heap.size w W1) := by unfold Hid; rw [← hW1]; exact ((Below.refl w.heap.size w).alloc (Nat.le_refl _) _).alloc (by rw [World.size_alloc]; exact Nat.le_succ _) _
        clear hW1
        obtain ⟨gm, egm⟩ : ∃ g, w.heap.size + 1 = g := ⟨_, rfl⟩
        rw [egm] at Xm1 ⊢
        clear egm
        go_upto_region 4 with (first | (go_at_call 10; refine (HSA.out _ HB1.out).mono ?_; rintro e w1 ⟨rfl, hB⟩; have Xs2 := Lib.hid (Xs1.out.below hB Xs1.out.lt); have Xm2 := Lib.hid (Xm1.out.below hB Xm1.out.lt); have HB2 := Lib.hid (HB1.out.trans (hB.mono HB1.out.size)); have sc3 := Xs2.out.cell 3; have mc2 := Xm2.out.cell 2; clear hB) | fail)
        clear sc3 mc2 Xs1 Xm1 HB1 HSA
        have sc0 := Xs2.out.cell 0; have sc1 := Xs2.out.cell 1; have sc2 := Xs2.out.cell 2; have sc3 := Xs2.out.cell 3; have sc4 := Xs2.out.cell 4; have sc5 := Xs2.out.cell 5; have sc6 := Xs2.out.cell 6
        go_upto_region 5 with (first | (go_at_call 17; refine (HSD.out _ HB2.out).mono ?_; rintro e u2 ⟨rfl, hB⟩; have Ys := Lib.hid (Xs2.out.below hB Xs2.out.lt); have Ym := Lib.hid (Xm2.out.below hB Xm2.out.lt); have HY := Lib.hid (HB2.out.trans (hB.mono HB2.out.size)); clear hB) | fail)
        refine world_is (P := fun W => Code.wp _ _ _ _ W) (fun W3 hW => ?_)
        have Xs3 : Hid (Blk W3 w.heap.size 32 #[.int .i64 id, .int .i64 role, .int .i64 side, .string key, .int .i64 sent, .int .i64 top, .int .u64 (seen : Int)]) := by unfold Hid; rw [← hW]; exact ((Ys.out.alloc _).alloc _)
        have Xm3 : Hid (Blk W3 gm 42 #[.int .i64 ms, .int .i64 mn, .string mt]) := by unfold Hid; rw [← hW]; exact ((Ym.out.alloc _).alloc _)
        have Xa3 : Hid (Blk W3 u2.heap.size 32 #[.int .i64 a0, .int .i64 a1, .int .i64 a2, .string a3, .int .i64 a4, .int .i64 a5, .int .u64 (a6 : Int)]) := by unfold Hid; rw [← hW]; exact (Blk.new _ _ _).alloc _
        have Xx3 : Hid (Blk W3 (u2.heap.size + 1) 42 #[.int .i64 b0, .int .i64 b1, .string b2]) := by unfold Hid; rw [← hW]; exact blk_new2 _ _ _ _
        have HB3 : Hid (Below w.heap.size w W3) := by unfold Hid; rw [← hW]; exact (HY.out.alloc HY.out.size _).alloc (by rw [World.size_alloc]; exact Nat.le_trans HY.out.size (Nat.le_succ _)) _
        clear hW HY HB2 Xs2 Ys Xm2 Ym sc0 sc1 sc2 sc3 sc4 sc5 sc6
        obtain ⟨gx, eg⟩ : ∃ g, u2.heap.size + 1 = g := ⟨_, rfl⟩
        rw [eg] at Xx3 ⊢
        clear eg
        obtain ⟨ga, eg⟩ : ∃ g, u2.heap.size = g := ⟨_, rfl⟩
        rw [eg] at Xa3 ⊢
        clear eg
        have sc0 := Xs3.out.cell 0; have sc1 := Xs3.out.cell 1; have sc2 := Xs3.out.cell 2; have sc3 := Xs3.out.cell 3; have sc4 := Xs3.out.cell 4; have sc5 := Xs3.out.cell 5; have sc6 := Xs3.out.cell 6
        go_upto_region 6 with (first | (go_at_call 18; refine (HRS.out _ HB3.out).mono ?_; rintro e u3 ⟨rfl, hB⟩; have Ys := Lib.hid (Xs3.out.below hB Xs3.out.lt); have Ym := Lib.hid (Xm3.out.below hB Xm3.out.lt); have Ya := Lib.hid (Xa3.out.below hB Xa3.out.lt); have Yx := Lib.hid (Xx3.out.below hB Xx3.out.lt); have HY := Lib.hid (HB3.out.trans (hB.mono HB3.out.size)); clear hB) | (refine wpList_store_mid rfl 46 _ _ rfl u3.heap.size 0 #[.int .i64 a0, .int .i64 a1, .int .i64 a2, .string a3, .int .i64 a4, .int .i64 a5, .int .u64 (a6 : Int), .int .i64 b0, .int .i64 b1, .string b2, .string ⟨#[]⟩, .int .i64 (E1 : Int)] rfl rfl (there_of_blk (o := 0) (Blk.new u3 46 zSld) (Nat.le_refl _)) infoSld (all_oneCell_toArray (sldC_one ⟨a0, a1, a2, a3, a4, a5, a6⟩ ⟨b0, b1, b2⟩ noT E1)) ?_) | fail)
        try simp only [Act.put]
        refine world_is (P := fun W => Code.wp _ _ _ _ W) (fun W4 hW => ?_)
        have Xs4 : Hid (Blk W4 w.heap.size 32 #[.int .i64 id, .int .i64 role, .int .i64 side, .string key, .int .i64 sent, .int .i64 top, .int .u64 (seen : Int)]) := by unfold Hid; rw [← hW]; exact blk_alloc_sets Ys.out
        have Xm4 : Hid (Blk W4 gm 42 #[.int .i64 ms, .int .i64 mn, .string mt]) := by unfold Hid; rw [← hW]; exact blk_alloc_sets Ym.out
        have Xa4 : Hid (Blk W4 ga 32 #[.int .i64 a0, .int .i64 a1, .int .i64 a2, .string a3, .int .i64 a4, .int .i64 a5, .int .u64 (a6 : Int)]) := by unfold Hid; rw [← hW]; exact blk_alloc_sets Ya.out
        have Xx4 : Hid (Blk W4 gx 42 #[.int .i64 b0, .int .i64 b1, .string b2]) := by unfold Hid; rw [← hW]; exact blk_alloc_sets Yx.out
        have Xp4 : Hid (Blk W4 u3.heap.size 46 #[.int .i64 a0, .int .i64 a1, .int .i64 a2, .string a3, .int .i64 a4, .int .i64 a5, .int .u64 (a6 : Int), .int .i64 b0, .int .i64 b1, .string b2, .string ⟨#[]⟩, .int .i64 (E1 : Int)]) := by unfold Hid; rw [← hW]; exact blk_setWhole (Blk.new u3 46 zSld) (#[.int .i64 a0, .int .i64 a1, .int .i64 a2, .string a3, .int .i64 a4, .int .i64 a5, .int .u64 (a6 : Int), .int .i64 b0, .int .i64 b1, .string b2, .string ⟨#[]⟩, .int .i64 (E1 : Int)] : Array Value).toList rfl
        have HB4 : Hid (Below w.heap.size w W4) := by unfold Hid; rw [← hW]; exact below_setCells (g := u3.heap.size) HY.out.size _ 0 _ (HY.out.alloc HY.out.size _)
        clear hW HY HB3 Xs3 Ys Xm3 Ym Xa3 Ya Xx3 Yx sc0 sc1 sc2 sc3 sc4 sc5 sc6
        obtain ⟨gp, eg⟩ : ∃ g, u3.heap.size = g := ⟨_, rfl⟩
        rw [eg] at Xp4 ⊢
        clear eg
        have sc0 := Xs4.out.cell 0; have sc1 := Xs4.out.cell 1; have sc2 := Xs4.out.cell 2; have sc3 := Xs4.out.cell 3; have sc4 := Xs4.out.cell 4; have sc5 := Xs4.out.cell 5; have sc6 := Xs4.out.cell 6
        have mc0 := Xm4.out.cell 0; have mc1 := Xm4.out.cell 1; have mc2 := Xm4.out.cell 2
        go_upto_region 7 with (first | (go_at_call 19; refine (HRC.out _ HB4.out).mono ?_; rintro e u4 ⟨rfl, hB⟩; have Ys := Lib.hid (Xs4.out.below hB Xs4.out.lt); have Ym := Lib.hid (Xm4.out.below hB Xm4.out.lt); have Ya := Lib.hid (Xa4.out.below hB Xa4.out.lt); have Yx := Lib.hid (Xx4.out.below hB Xx4.out.lt); have Yp := Lib.hid (Xp4.out.below hB Xp4.out.lt); have HY := Lib.hid (HB4.out.trans (hB.mono HB4.out.size)); clear hB) | fail)
        refine world_is (P := fun W => Code.wp _ _ _ _ W) (fun W5 hW => ?_)
        have Xs5 : Hid (Blk W5 w.heap.size 32 #[.int .i64 id, .int .i64 role, .int .i64 side, .string key, .int .i64 sent, .int .i64 top, .int .u64 (seen : Int)]) := by unfold Hid; rw [← hW]; exact (Ys.out.alloc _)
        have Xm5 : Hid (Blk W5 gm 42 #[.int .i64 ms, .int .i64 mn, .string mt]) := by unfold Hid; rw [← hW]; exact (Ym.out.alloc _)
        have Xa5 : Hid (Blk W5 ga 32 #[.int .i64 a0, .int .i64 a1, .int .i64 a2, .string a3, .int .i64 a4, .int .i64 a5, .int .u64 (a6 : Int)]) := by unfold Hid; rw [← hW]; exact (Ya.out.alloc _)
        have Xx5 : Hid (Blk W5 gx 42 #[.int .i64 b0, .int .i64 b1, .string b2]) := by unfold Hid; rw [← hW]; exact (Yx.out.alloc _)
        have Xp5 : Hid (Blk W5 gp 46 #[.int .i64 a0, .int .i64 a1, .int .i64 a2, .string a3, .int .i64 a4, .int .i64 a5, .int .u64 (a6 : Int), .int .i64 b0, .int .i64 b1, .string b2, .string ⟨#[]⟩, .int .i64 (E1 : Int)]) := by unfold Hid; rw [← hW]; exact (Yp.out.alloc _)
        have Xb5 : Hid (Blk W5 u4.heap.size 32 #[.int .i64 c0, .int .i64 c1, .int .i64 c2, .string c3, .int .i64 c4, .int .i64 c5, .int .u64 (c6 : Int)]) := by unfold Hid; rw [← hW]; exact Blk.new _ _ _
        have HB5 : Hid (Below w.heap.size w W5) := by unfold Hid; rw [← hW]; exact HY.out.alloc HY.out.size _
        clear hW HY HB4 Xs4 Ys Xm4 Ym Xa4 Ya Xx4 Yx Xp4 Yp sc0 sc1 sc2 sc3 sc4 sc5 sc6 mc0 mc1 mc2
        obtain ⟨gb, eg⟩ : ∃ g, u4.heap.size = g := ⟨_, rfl⟩
        rw [eg] at Xb5 ⊢
        clear eg
        have sc0 := Xs5.out.cell 0; have sc1 := Xs5.out.cell 1; have sc2 := Xs5.out.cell 2; have sc3 := Xs5.out.cell 3; have sc4 := Xs5.out.cell 4; have sc5 := Xs5.out.cell 5; have sc6 := Xs5.out.cell 6
        have mc0 := Xm5.out.cell 0; have mc1 := Xm5.out.cell 1; have mc2 := Xm5.out.cell 2
        go_upto_region 8 with (first | (go_at_call 20; refine (HRR.out _ HB5.out).mono ?_; rintro e u5 ⟨rfl, hB⟩; have Ys := Lib.hid (Xs5.out.below hB Xs5.out.lt); have Ym := Lib.hid (Xm5.out.below hB Xm5.out.lt); have Ya := Lib.hid (Xa5.out.below hB Xa5.out.lt); have Yx := Lib.hid (Xx5.out.below hB Xx5.out.lt); have Yp := Lib.hid (Xp5.out.below hB Xp5.out.lt); have Yb := Lib.hid (Xb5.out.below hB Xb5.out.lt); have HY := Lib.hid (HB5.out.trans (hB.mono HB5.out.size)); clear hB) | (refine wpList_store_mid rfl 46 _ _ rfl u5.heap.size 0 #[.int .i64 c0, .int .i64 c1, .int .i64 c2, .string c3, .int .i64 c4, .int .i64 c5, .int .u64 (c6 : Int), .int .i64 0, .int .i64 0, .string ⟨#[]⟩, .string TX, .int .i64 (E2 : Int)] rfl rfl (there_of_blk (o := 0) (Blk.new u5 46 zSld) (Nat.le_refl _)) infoSld (all_oneCell_toArray (sldC_one ⟨c0, c1, c2, c3, c4, c5, c6⟩ noMsg TX E2)) ?_) | fail)
        try simp only [Act.put]
        refine world_is (P := fun W => Code.wp _ _ _ _ W) (fun W6 hW => ?_)
        have Xs6 : Hid (Blk W6 w.heap.size 32 #[.int .i64 id, .int .i64 role, .int .i64 side, .string key, .int .i64 sent, .int .i64 top, .int .u64 (seen : Int)]) := by unfold Hid; rw [← hW]; exact blk_alloc_sets Ys.out
        have Xm6 : Hid (Blk W6 gm 42 #[.int .i64 ms, .int .i64 mn, .string mt]) := by unfold Hid; rw [← hW]; exact blk_alloc_sets Ym.out
        have Xa6 : Hid (Blk W6 ga 32 #[.int .i64 a0, .int .i64 a1, .int .i64 a2, .string a3, .int .i64 a4, .int .i64 a5, .int .u64 (a6 : Int)]) := by unfold Hid; rw [← hW]; exact blk_alloc_sets Ya.out
        have Xx6 : Hid (Blk W6 gx 42 #[.int .i64 b0, .int .i64 b1, .string b2]) := by unfold Hid; rw [← hW]; exact blk_alloc_sets Yx.out
        have Xp6 : Hid (Blk W6 gp 46 #[.int .i64 a0, .int .i64 a1, .int .i64 a2, .string a3, .int .i64 a4, .int .i64 a5, .int .u64 (a6 : Int), .int .i64 b0, .int .i64 b1, .string b2, .string ⟨#[]⟩, .int .i64 (E1 : Int)]) := by unfold Hid; rw [← hW]; exact blk_alloc_sets Yp.out
        have Xb6 : Hid (Blk W6 gb 32 #[.int .i64 c0, .int .i64 c1, .int .i64 c2, .string c3, .int .i64 c4, .int .i64 c5, .int .u64 (c6 : Int)]) := by unfold Hid; rw [← hW]; exact blk_alloc_sets Yb.out
        have Xq6 : Hid (Blk W6 u5.heap.size 46 #[.int .i64 c0, .int .i64 c1, .int .i64 c2, .string c3, .int .i64 c4, .int .i64 c5, .int .u64 (c6 : Int), .int .i64 0, .int .i64 0, .string ⟨#[]⟩, .string TX, .int .i64 (E2 : Int)]) := by unfold Hid; rw [← hW]; exact blk_setWhole (Blk.new u5 46 zSld) (#[.int .i64 c0, .int .i64 c1, .int .i64 c2, .string c3, .int .i64 c4, .int .i64 c5, .int .u64 (c6 : Int), .int .i64 0, .int .i64 0, .string ⟨#[]⟩, .string TX, .int .i64 (E2 : Int)] : Array Value).toList rfl
        have HB6 : Hid (Below w.heap.size w W6) := by unfold Hid; rw [← hW]; exact below_setCells (g := u5.heap.size) HY.out.size _ 0 _ (HY.out.alloc HY.out.size _)
        clear hW HY HB5 Xs5 Ys Xm5 Ym Xa5 Ya Xx5 Yx Xp5 Yp Xb5 Yb sc0 sc1 sc2 sc3 sc4 sc5 sc6 mc0 mc1 mc2
        obtain ⟨gq, eg⟩ : ∃ g, u5.heap.size = g := ⟨_, rfl⟩
        rw [eg] at Xq6 ⊢
        clear eg
        have HH : Hid (∀ wx, Below W6.heap.size W6 wx → wx.cell? ⟨w.heap.size, 0, none⟩ = some (.int .i64 id) ∧ wx.cell? ⟨w.heap.size, 1, none⟩ = some (.int .i64 role) ∧ wx.cell? ⟨w.heap.size, 2, none⟩ = some (.int .i64 side) ∧ wx.cell? ⟨w.heap.size, 3, none⟩ = some (.string key) ∧ wx.cell? ⟨w.heap.size, 4, none⟩ = some (.int .i64 sent) ∧ wx.cell? ⟨w.heap.size, 5, none⟩ = some (.int .i64 top) ∧ wx.cell? ⟨w.heap.size, 6, none⟩ = some (.int .u64 (seen : Int)) ∧ wx.cell? ⟨ga, 0, none⟩ = some (.int .i64 a0) ∧ wx.cell? ⟨ga, 1, none⟩ = some (.int .i64 a1) ∧ wx.cell? ⟨ga, 2, none⟩ = some (.int .i64 a2) ∧ wx.cell? ⟨ga, 3, none⟩ = some (.string a3) ∧ wx.cell? ⟨ga, 4, none⟩ = some (.int .i64 a4) ∧ wx.cell? ⟨ga, 5, none⟩ = some (.int .i64 a5) ∧ wx.cell? ⟨ga, 6, none⟩ = some (.int .u64 (a6 : Int)) ∧ wx.cell? ⟨gx, 0, none⟩ = some (.int .i64 b0) ∧ wx.cell? ⟨gx, 1, none⟩ = some (.int .i64 b1) ∧ wx.cell? ⟨gx, 2, none⟩ = some (.string b2) ∧ wx.cell? ⟨gp, 0, none⟩ = some (.int .i64 a0) ∧ wx.cell? ⟨gp, 1, none⟩ = some (.int .i64 a1) ∧ wx.cell? ⟨gp, 2, none⟩ = some (.int .i64 a2) ∧ wx.cell? ⟨gp, 3, none⟩ = some (.string a3) ∧ wx.cell? ⟨gp, 4, none⟩ = some (.int .i64 a4) ∧ wx.cell? ⟨gp, 5, none⟩ = some (.int .i64 a5) ∧ wx.cell? ⟨gp, 6, none⟩ = some (.int .u64 (a6 : Int)) ∧ wx.cell? ⟨gp, 7, none⟩ = some (.int .i64 b0) ∧ wx.cell? ⟨gp, 8, none⟩ = some (.int .i64 b1) ∧ wx.cell? ⟨gp, 9, none⟩ = some (.string b2) ∧ wx.cell? ⟨gp, 11, none⟩ = some (.int .i64 (E1 : Int)) ∧ wx.cell? ⟨gb, 0, none⟩ = some (.int .i64 c0) ∧ wx.cell? ⟨gb, 1, none⟩ = some (.int .i64 c1) ∧ wx.cell? ⟨gb, 2, none⟩ = some (.int .i64 c2) ∧ wx.cell? ⟨gb, 3, none⟩ = some (.string c3) ∧ wx.cell? ⟨gb, 4, none⟩ = some (.int .i64 c4) ∧ wx.cell? ⟨gb, 5, none⟩ = some (.int .i64 c5) ∧ wx.cell? ⟨gb, 6, none⟩ = some (.int .u64 (c6 : Int)) ∧ wx.cell? ⟨gq, 0, none⟩ = some (.int .i64 c0) ∧ wx.cell? ⟨gq, 1, none⟩ = some (.int .i64 c1) ∧ wx.cell? ⟨gq, 2, none⟩ = some (.int .i64 c2) ∧ wx.cell? ⟨gq, 3, none⟩ = some (.string c3) ∧ wx.cell? ⟨gq, 4, none⟩ = some (.int .i64 c4) ∧ wx.cell? ⟨gq, 5, none⟩ = some (.int .i64 c5) ∧ wx.cell? ⟨gq, 6, none⟩ = some (.int .u64 (c6 : Int)) ∧ wx.cell? ⟨gq, 10, none⟩ = some (.string TX) ∧ wx.cell? ⟨gq, 11, none⟩ = some (.int .i64 (E2 : Int))) := fun wx hB => ⟨(Xs6.out.below hB Xs6.out.lt).cell 0, (Xs6.out.below hB Xs6.out.lt).cell 1, (Xs6.out.below hB Xs6.out.lt).cell 2, (Xs6.out.below hB Xs6.out.lt).cell 3, (Xs6.out.below hB Xs6.out.lt).cell 4, (Xs6.out.below hB Xs6.out.lt).cell 5, (Xs6.out.below hB Xs6.out.lt).cell 6, (Xa6.out.below hB Xa6.out.lt).cell 0, (Xa6.out.below hB Xa6.out.lt).cell 1, (Xa6.out.below hB Xa6.out.lt).cell 2, (Xa6.out.below hB Xa6.out.lt).cell 3, (Xa6.out.below hB Xa6.out.lt).cell 4, (Xa6.out.below hB Xa6.out.lt).cell 5, (Xa6.out.below hB Xa6.out.lt).cell 6, (Xx6.out.below hB Xx6.out.lt).cell 0, (Xx6.out.below hB Xx6.out.lt).cell 1, (Xx6.out.below hB Xx6.out.lt).cell 2, (Xp6.out.below hB Xp6.out.lt).cell 0, (Xp6.out.below hB Xp6.out.lt).cell 1, (Xp6.out.below hB Xp6.out.lt).cell 2, (Xp6.out.below hB Xp6.out.lt).cell 3, (Xp6.out.below hB Xp6.out.lt).cell 4, (Xp6.out.below hB Xp6.out.lt).cell 5, (Xp6.out.below hB Xp6.out.lt).cell 6, (Xp6.out.below hB Xp6.out.lt).cell 7, (Xp6.out.below hB Xp6.out.lt).cell 8, (Xp6.out.below hB Xp6.out.lt).cell 9, (Xp6.out.below hB Xp6.out.lt).cell 11, (Xb6.out.below hB Xb6.out.lt).cell 0, (Xb6.out.below hB Xb6.out.lt).cell 1, (Xb6.out.below hB Xb6.out.lt).cell 2, (Xb6.out.below hB Xb6.out.lt).cell 3, (Xb6.out.below hB Xb6.out.lt).cell 4, (Xb6.out.below hB Xb6.out.lt).cell 5, (Xb6.out.below hB Xb6.out.lt).cell 6, (Xq6.out.below hB Xq6.out.lt).cell 0, (Xq6.out.below hB Xq6.out.lt).cell 1, (Xq6.out.below hB Xq6.out.lt).cell 2, (Xq6.out.below hB Xq6.out.lt).cell 3, (Xq6.out.below hB Xq6.out.lt).cell 4, (Xq6.out.below hB Xq6.out.lt).cell 5, (Xq6.out.below hB Xq6.out.lt).cell 6, (Xq6.out.below hB Xq6.out.lt).cell 10, (Xq6.out.below hB Xq6.out.lt).cell 11⟩
        have hVV : (V == V) = true := beq_self_eq_true V
        refine wp_region_held_drew (S := (fun wx => wx.cell? ⟨w.heap.size, 0, none⟩ = some (.int .i64 id) ∧ wx.cell? ⟨w.heap.size, 1, none⟩ = some (.int .i64 role) ∧ wx.cell? ⟨w.heap.size, 2, none⟩ = some (.int .i64 side) ∧ wx.cell? ⟨w.heap.size, 3, none⟩ = some (.string key) ∧ wx.cell? ⟨w.heap.size, 4, none⟩ = some (.int .i64 sent) ∧ wx.cell? ⟨w.heap.size, 5, none⟩ = some (.int .i64 top) ∧ wx.cell? ⟨w.heap.size, 6, none⟩ = some (.int .u64 (seen : Int)) ∧ wx.cell? ⟨ga, 0, none⟩ = some (.int .i64 a0) ∧ wx.cell? ⟨ga, 1, none⟩ = some (.int .i64 a1) ∧ wx.cell? ⟨ga, 2, none⟩ = some (.int .i64 a2) ∧ wx.cell? ⟨ga, 3, none⟩ = some (.string a3) ∧ wx.cell? ⟨ga, 4, none⟩ = some (.int .i64 a4) ∧ wx.cell? ⟨ga, 5, none⟩ = some (.int .i64 a5) ∧ wx.cell? ⟨ga, 6, none⟩ = some (.int .u64 (a6 : Int)) ∧ wx.cell? ⟨gx, 0, none⟩ = some (.int .i64 b0) ∧ wx.cell? ⟨gx, 1, none⟩ = some (.int .i64 b1) ∧ wx.cell? ⟨gx, 2, none⟩ = some (.string b2) ∧ wx.cell? ⟨gp, 0, none⟩ = some (.int .i64 a0) ∧ wx.cell? ⟨gp, 1, none⟩ = some (.int .i64 a1) ∧ wx.cell? ⟨gp, 2, none⟩ = some (.int .i64 a2) ∧ wx.cell? ⟨gp, 3, none⟩ = some (.string a3) ∧ wx.cell? ⟨gp, 4, none⟩ = some (.int .i64 a4) ∧ wx.cell? ⟨gp, 5, none⟩ = some (.int .i64 a5) ∧ wx.cell? ⟨gp, 6, none⟩ = some (.int .u64 (a6 : Int)) ∧ wx.cell? ⟨gp, 7, none⟩ = some (.int .i64 b0) ∧ wx.cell? ⟨gp, 8, none⟩ = some (.int .i64 b1) ∧ wx.cell? ⟨gp, 9, none⟩ = some (.string b2) ∧ wx.cell? ⟨gp, 11, none⟩ = some (.int .i64 (E1 : Int)) ∧ wx.cell? ⟨gb, 0, none⟩ = some (.int .i64 c0) ∧ wx.cell? ⟨gb, 1, none⟩ = some (.int .i64 c1) ∧ wx.cell? ⟨gb, 2, none⟩ = some (.int .i64 c2) ∧ wx.cell? ⟨gb, 3, none⟩ = some (.string c3) ∧ wx.cell? ⟨gb, 4, none⟩ = some (.int .i64 c4) ∧ wx.cell? ⟨gb, 5, none⟩ = some (.int .i64 c5) ∧ wx.cell? ⟨gb, 6, none⟩ = some (.int .u64 (c6 : Int)) ∧ wx.cell? ⟨gq, 0, none⟩ = some (.int .i64 c0) ∧ wx.cell? ⟨gq, 1, none⟩ = some (.int .i64 c1) ∧ wx.cell? ⟨gq, 2, none⟩ = some (.int .i64 c2) ∧ wx.cell? ⟨gq, 3, none⟩ = some (.string c3) ∧ wx.cell? ⟨gq, 4, none⟩ = some (.int .i64 c4) ∧ wx.cell? ⟨gq, 5, none⟩ = some (.int .i64 c5) ∧ wx.cell? ⟨gq, 6, none⟩ = some (.int .u64 (c6 : Int)) ∧ wx.cell? ⟨gq, 10, none⟩ = some (.string TX) ∧ wx.cell? ⟨gq, 11, none⟩ = some (.int .i64 (E2 : Int)))) (by kernel_rfl) (HH.out _ (Below.refl _ W6).drew) (fun hHeld => ?_)
        refine' wpAnyH_take (i := 0) (v := ?v0) rfl (by kernel_rfl) (by kernel_rfl) (by kernel_rfl) (fun _ _ _ h => h) (Or.inl ⟨by go_simp, ?hy0⟩) hHeld ?rest0
        case hy0 =>
          intro w hSw
          try dsimp only at hSw
          go_simp
          all_goals with_reducible rfl
        try simp only [Act.put, List.setIfInBounds_toArray, List.set_cons_zero, List.set_cons_succ, List.getElem_toArray, List.getElem_cons_zero]
        refine' wpAnyH_take (i := 1) (v := ?v1) rfl (by kernel_rfl) (by kernel_rfl) (by kernel_rfl) (fun _ _ _ h => h) (Or.inl ⟨by go_simp, ?hy1⟩) hHeld ?rest1
        case hy1 =>
          intro w hSw
          try dsimp only at hSw
          go_simp
          all_goals with_reducible rfl
        try simp only [Act.put, List.setIfInBounds_toArray, List.set_cons_zero, List.set_cons_succ, List.getElem_toArray, List.getElem_cons_zero, List.getElem_cons_succ]
        refine' wpAnyH_take (i := 2) (v := ?v2) rfl (by kernel_rfl) (by kernel_rfl) (by kernel_rfl) (fun _ _ _ h => h) (Or.inl ⟨by go_simp, ?hy2⟩) hHeld ?rest2
        case hy2 =>
          intro w hSw
          try dsimp only at hSw
          go_simp
          all_goals with_reducible rfl
        try simp only [Act.put, List.setIfInBounds_toArray, List.set_cons_zero, List.set_cons_succ, List.getElem_toArray, List.getElem_cons_zero, List.getElem_cons_succ]
        refine' wpAnyH_take (i := 3) (v := ?v3) rfl (by kernel_rfl) (by kernel_rfl) (by kernel_rfl) (fun _ _ _ h => h) (Or.inl ⟨by go_simp, ?hy3⟩) hHeld ?rest3
        case hy3 =>
          intro w hSw
          try dsimp only at hSw
          go_simp
          all_goals with_reducible rfl
        try simp only [Act.put, List.setIfInBounds_toArray, List.set_cons_zero, List.set_cons_succ, List.getElem_toArray, List.getElem_cons_zero, List.getElem_cons_succ]
        refine' wpAnyH_take (i := 4) (v := ?v4) rfl (by kernel_rfl) (by kernel_rfl) (by kernel_rfl) (fun _ _ _ h => h) (Or.inl ⟨by go_simp, ?hy4⟩) hHeld ?rest4
        case hy4 =>
          intro w hSw
          try dsimp only at hSw
          go_simp
          all_goals with_reducible rfl
        try simp only [Act.put, List.setIfInBounds_toArray, List.set_cons_zero, List.set_cons_succ, List.getElem_toArray, List.getElem_cons_zero, List.getElem_cons_succ]
        refine' wpAnyH_take (i := 5) (v := ?v5) rfl (by kernel_rfl) (by kernel_rfl) (by kernel_rfl) (fun _ _ _ h => h) (Or.inl ⟨by go_simp, ?hy5⟩) hHeld ?rest5
        case hy5 =>
          intro w hSw
          try dsimp only at hSw
          go_simp
          all_goals with_reducible rfl
        try simp only [Act.put, List.setIfInBounds_toArray, List.set_cons_zero, List.set_cons_succ, List.getElem_toArray, List.getElem_cons_zero, List.getElem_cons_succ]
        refine' wpAnyH_take (i := 6) (v := ?v6) rfl (by kernel_rfl) (by kernel_rfl) (by kernel_rfl) (fun _ _ _ h => h) (Or.inl ⟨by go_simp, ?hy6⟩) hHeld ?rest6
        case hy6 =>
          intro w hSw
          try dsimp only at hSw
          go_simp
          all_goals with_reducible rfl
        try simp only [Act.put, List.setIfInBounds_toArray, List.set_cons_zero, List.set_cons_succ, List.getElem_toArray, List.getElem_cons_zero, List.getElem_cons_succ]
        refine' wpAnyH_take (i := 7) (v := ?v7) rfl (by kernel_rfl) (by kernel_rfl) (by kernel_rfl) (fun _ _ _ h => h) (Or.inl ⟨by go_simp, ?hy7⟩) hHeld ?rest7
        case hy7 =>
          intro w hSw
          try dsimp only at hSw
          go_simp
          all_goals with_reducible rfl
        try simp only [Act.put, List.setIfInBounds_toArray, List.set_cons_zero, List.set_cons_succ, List.getElem_toArray, List.getElem_cons_zero, List.getElem_cons_succ]
        refine' wpAnyH_take (i := 8) (v := ?v8) rfl (by kernel_rfl) (by kernel_rfl) (by kernel_rfl) (fun _ _ _ h => h) (Or.inl ⟨by go_simp, ?hy8⟩) hHeld ?rest8
        case hy8 =>
          intro w hSw
          try dsimp only at hSw
          go_simp
          all_goals with_reducible rfl
        try simp only [Act.put, List.setIfInBounds_toArray, List.set_cons_zero, List.set_cons_succ, List.getElem_toArray, List.getElem_cons_zero, List.getElem_cons_succ]
        refine' wpAnyH_take (i := 9) (v := ?v9) rfl (by kernel_rfl) (by kernel_rfl) (by kernel_rfl) (fun _ _ _ h => h) (Or.inl ⟨by go_simp, ?hy9⟩) hHeld ?rest9
        case hy9 =>
          intro w hSw
          try dsimp only at hSw
          go_simp
          all_goals with_reducible rfl
        try simp only [Act.put, List.setIfInBounds_toArray, List.set_cons_zero, List.set_cons_succ, List.getElem_toArray, List.getElem_cons_zero, List.getElem_cons_succ]
        refine' wpAnyH_take (i := 10) (v := ?v10) rfl (by kernel_rfl) (by kernel_rfl) (by kernel_rfl) (fun _ _ _ h => h) (Or.inl ⟨by go_simp, ?hy10⟩) hHeld ?rest10
        case hy10 =>
          intro w hSw
          try dsimp only at hSw
          go_simp
          all_goals with_reducible rfl
        try simp only [Act.put, List.setIfInBounds_toArray, List.set_cons_zero, List.set_cons_succ, List.getElem_toArray, List.getElem_cons_zero, List.getElem_cons_succ]
        refine' wpAnyH_take (i := 11) (v := ?v11) rfl (by kernel_rfl) (by kernel_rfl) (by kernel_rfl) (fun _ _ _ h => h) (Or.inl ⟨by go_simp, ?hy11⟩) hHeld ?rest11
        case hy11 =>
          intro w hSw
          try dsimp only at hSw
          go_simp
          all_goals with_reducible rfl
        try simp only [Act.put, List.setIfInBounds_toArray, List.set_cons_zero, List.set_cons_succ, List.getElem_toArray, List.getElem_cons_zero, List.getElem_cons_succ]
        refine' wpAnyH_take (i := 12) (v := ?v12) rfl (by kernel_rfl) (by kernel_rfl) (by kernel_rfl) (fun _ _ _ h => h) (Or.inl ⟨by go_simp, ?hy12⟩) hHeld ?rest12
        case hy12 =>
          intro w hSw
          try dsimp only at hSw
          go_simp
          all_goals with_reducible rfl
        try simp only [Act.put, List.setIfInBounds_toArray, List.set_cons_zero, List.set_cons_succ, List.getElem_toArray, List.getElem_cons_zero, List.getElem_cons_succ]
        refine' wpAnyH_take (i := 13) (v := ?v13) rfl (by kernel_rfl) (by kernel_rfl) (by kernel_rfl) (fun _ _ _ h => h) (Or.inl ⟨by go_simp, ?hy13⟩) hHeld ?rest13
        case hy13 =>
          intro w hSw
          try dsimp only at hSw
          go_simp
          all_goals with_reducible rfl
        try simp only [Act.put, List.setIfInBounds_toArray, List.set_cons_zero, List.set_cons_succ, List.getElem_toArray, List.getElem_cons_zero, List.getElem_cons_succ]
        refine' wpAnyH_take (i := 14) (v := ?v14) rfl (by kernel_rfl) (by kernel_rfl) (by kernel_rfl) (fun _ _ _ h => h) (Or.inl ⟨by go_simp, ?hy14⟩) hHeld ?rest14
        case hy14 =>
          intro w hSw
          try dsimp only at hSw
          go_simp
          all_goals with_reducible rfl
        try simp only [Act.put, List.setIfInBounds_toArray, List.set_cons_zero, List.set_cons_succ, List.getElem_toArray, List.getElem_cons_zero, List.getElem_cons_succ]
        refine' wpAnyH_take (i := 15) (v := ?v15) rfl (by kernel_rfl) (by kernel_rfl) (by kernel_rfl) (fun _ _ _ h => h) (Or.inl ⟨by go_simp, ?hy15⟩) hHeld ?rest15
        case hy15 =>
          intro w hSw
          try dsimp only at hSw
          go_simp
          all_goals with_reducible rfl
        try simp only [Act.put, List.setIfInBounds_toArray, List.set_cons_zero, List.set_cons_succ, List.getElem_toArray, List.getElem_cons_zero, List.getElem_cons_succ]
        refine' wpAnyH_take (i := 16) (v := ?v16) rfl (by kernel_rfl) (by kernel_rfl) (by kernel_rfl) (fun _ _ _ h => h) (Or.inl ⟨by go_simp, ?hy16⟩) hHeld ?rest16
        case hy16 =>
          intro w hSw
          try dsimp only at hSw
          go_simp
          all_goals with_reducible rfl
        try simp only [Act.put, List.setIfInBounds_toArray, List.set_cons_zero, List.set_cons_succ, List.getElem_toArray, List.getElem_cons_zero, List.getElem_cons_succ]
        refine' wpAnyH_take (i := 17) (v := ?v17) rfl (by kernel_rfl) (by kernel_rfl) (by kernel_rfl) (fun _ _ _ h => h) (Or.inl ⟨by go_simp, ?hy17⟩) hHeld ?rest17
        case hy17 =>
          intro w hSw
          try dsimp only at hSw
          go_simp
          all_goals with_reducible rfl
        try simp only [Act.put, List.setIfInBounds_toArray, List.set_cons_zero, List.set_cons_succ, List.getElem_toArray, List.getElem_cons_zero, List.getElem_cons_succ]
        refine' wpAnyH_take (i := 18) (v := ?v18) rfl (by kernel_rfl) (by kernel_rfl) (by kernel_rfl) (fun _ _ _ h => h) (Or.inl ⟨by go_simp, ?hy18⟩) hHeld ?rest18
        case hy18 =>
          intro w hSw
          try dsimp only at hSw
          go_simp
          all_goals with_reducible rfl
        try simp only [Act.put, List.setIfInBounds_toArray, List.set_cons_zero, List.set_cons_succ, List.getElem_toArray, List.getElem_cons_zero, List.getElem_cons_succ]
        refine' wpAnyH_take (i := 19) (v := ?v19) rfl (by kernel_rfl) (by kernel_rfl) (by kernel_rfl) (fun _ _ _ h => h) (Or.inl ⟨by go_simp, ?hy19⟩) hHeld ?rest19
        case hy19 =>
          intro w hSw
          try dsimp only at hSw
          go_simp
          all_goals with_reducible rfl
        try simp only [Act.put, List.setIfInBounds_toArray, List.set_cons_zero, List.set_cons_succ, List.getElem_toArray, List.getElem_cons_zero, List.getElem_cons_succ]
        refine' wpAnyH_take (i := 20) (v := ?v20) rfl (by kernel_rfl) (by kernel_rfl) (by kernel_rfl) (fun _ _ _ h => h) (Or.inl ⟨by go_simp, ?hy20⟩) hHeld ?rest20
        case hy20 =>
          intro w hSw
          try dsimp only at hSw
          go_simp
          all_goals with_reducible rfl
        try simp only [Act.put, List.setIfInBounds_toArray, List.set_cons_zero, List.set_cons_succ, List.getElem_toArray, List.getElem_cons_zero, List.getElem_cons_succ]
        refine' wpAnyH_take (i := 21) (v := ?v21) rfl (by kernel_rfl) (by kernel_rfl) (by kernel_rfl) (fun _ _ _ h => h) (Or.inl ⟨by go_simp, ?hy21⟩) hHeld ?rest21
        case hy21 =>
          intro w hSw
          try dsimp only at hSw
          go_simp
          all_goals with_reducible rfl
        try simp only [Act.put, List.setIfInBounds_toArray, List.set_cons_zero, List.set_cons_succ, List.getElem_toArray, List.getElem_cons_zero, List.getElem_cons_succ]
        refine' wpAnyH_take (i := 22) (v := ?v22) rfl (by kernel_rfl) (by kernel_rfl) (by kernel_rfl) (fun _ _ _ h => h) (Or.inl ⟨by go_simp, ?hy22⟩) hHeld ?rest22
        case hy22 =>
          intro w hSw
          try dsimp only at hSw
          go_simp
          all_goals with_reducible rfl
        try simp only [Act.put, List.setIfInBounds_toArray, List.set_cons_zero, List.set_cons_succ, List.getElem_toArray, List.getElem_cons_zero, List.getElem_cons_succ]
        refine' wpAnyH_take (i := 23) (v := ?v23) rfl (by kernel_rfl) (by kernel_rfl) (by kernel_rfl) (fun _ _ _ h => h) (Or.inl ⟨by go_simp, ?hy23⟩) hHeld ?rest23
        case hy23 =>
          intro w hSw
          try dsimp only at hSw
          go_simp
          all_goals with_reducible rfl
        try simp only [Act.put, List.setIfInBounds_toArray, List.set_cons_zero, List.set_cons_succ, List.getElem_toArray, List.getElem_cons_zero, List.getElem_cons_succ]
        refine' wpAnyH_take (i := 24) (v := ?v24) rfl (by kernel_rfl) (by kernel_rfl) (by kernel_rfl) (fun _ _ _ h => h) (Or.inl ⟨by go_simp, ?hy24⟩) hHeld ?rest24
        case hy24 =>
          intro w hSw
          try dsimp only at hSw
          go_simp
          all_goals with_reducible rfl
        try simp only [Act.put, List.setIfInBounds_toArray, List.set_cons_zero, List.set_cons_succ, List.getElem_toArray, List.getElem_cons_zero, List.getElem_cons_succ]
        refine' wpAnyH_take (i := 25) (v := ?v25) rfl (by kernel_rfl) (by kernel_rfl) (by kernel_rfl) (fun _ _ _ h => h) (Or.inl ⟨by go_simp, ?hy25⟩) hHeld ?rest25
        case hy25 =>
          intro w hSw
          try dsimp only at hSw
          go_simp
          all_goals with_reducible rfl
        try simp only [Act.put, List.setIfInBounds_toArray, List.set_cons_zero, List.set_cons_succ, List.getElem_toArray, List.getElem_cons_zero, List.getElem_cons_succ]
        refine' wpAnyH_take (i := 26) (v := ?v26) rfl (by kernel_rfl) (by kernel_rfl) (by kernel_rfl) (fun _ _ _ h => h) (Or.inl ⟨by go_simp, ?hy26⟩) hHeld ?rest26
        case hy26 =>
          intro w hSw
          try dsimp only at hSw
          go_simp
          all_goals with_reducible rfl
        try simp only [Act.put, List.setIfInBounds_toArray, List.set_cons_zero, List.set_cons_succ, List.getElem_toArray, List.getElem_cons_zero, List.getElem_cons_succ]
        refine' wpAnyH_take (i := 27) (v := ?v27) rfl (by kernel_rfl) (by kernel_rfl) (by kernel_rfl) (fun _ _ _ h => h) (Or.inl ⟨by go_simp, ?hy27⟩) hHeld ?rest27
        case hy27 =>
          intro w hSw
          try dsimp only at hSw
          go_simp
          all_goals with_reducible rfl
        try simp only [Act.put, List.setIfInBounds_toArray, List.set_cons_zero, List.set_cons_succ, List.getElem_toArray, List.getElem_cons_zero, List.getElem_cons_succ]
        refine' wpAnyH_take (i := 28) (v := ?v28) rfl (by kernel_rfl) (by kernel_rfl) (by kernel_rfl) (fun _ _ _ h => h) (Or.inl ⟨by go_simp, ?hy28⟩) hHeld ?rest28
        case hy28 =>
          intro w hSw
          try dsimp only at hSw
          go_simp
          all_goals with_reducible rfl
        try simp only [Act.put, List.setIfInBounds_toArray, List.set_cons_zero, List.set_cons_succ, List.getElem_toArray, List.getElem_cons_zero, List.getElem_cons_succ]
        refine' wpAnyH_take (i := 29) (v := ?v29) rfl (by kernel_rfl) (by kernel_rfl) (by kernel_rfl) (fun _ _ _ h => h) (Or.inl ⟨by go_simp, ?hy29⟩) hHeld ?rest29
        case hy29 =>
          intro w hSw
          try dsimp only at hSw
          go_simp
          all_goals with_reducible rfl
        try simp only [Act.put, List.setIfInBounds_toArray, List.set_cons_zero, List.set_cons_succ, List.getElem_toArray, List.getElem_cons_zero, List.getElem_cons_succ]
        refine' wpAnyH_take (i := 30) (v := ?v30) rfl (by kernel_rfl) (by kernel_rfl) (by kernel_rfl) (fun _ _ _ h => h) (Or.inl ⟨by go_simp, ?hy30⟩) hHeld ?rest30
        case hy30 =>
          intro w hSw
          try dsimp only at hSw
          go_simp
          all_goals with_reducible rfl
        try simp only [Act.put, List.setIfInBounds_toArray, List.set_cons_zero, List.set_cons_succ, List.getElem_toArray, List.getElem_cons_zero, List.getElem_cons_succ]
        refine' wpAnyH_take (i := 31) (v := ?v31) rfl (by kernel_rfl) (by kernel_rfl) (by kernel_rfl) (fun _ _ _ h => h) (Or.inl ⟨by go_simp, ?hy31⟩) hHeld ?rest31
        case hy31 =>
          intro w hSw
          try dsimp only at hSw
          go_simp
          all_goals with_reducible rfl
        try simp only [Act.put, List.setIfInBounds_toArray, List.set_cons_zero, List.set_cons_succ, List.getElem_toArray, List.getElem_cons_zero, List.getElem_cons_succ]
        refine' wpAnyH_take (i := 32) (v := ?v32) rfl (by kernel_rfl) (by kernel_rfl) (by kernel_rfl) (fun _ _ _ h => h) (Or.inl ⟨by go_simp, ?hy32⟩) hHeld ?rest32
        case hy32 =>
          intro w hSw
          try dsimp only at hSw
          go_simp
          all_goals with_reducible rfl
        try simp only [Act.put, List.setIfInBounds_toArray, List.set_cons_zero, List.set_cons_succ, List.getElem_toArray, List.getElem_cons_zero, List.getElem_cons_succ]
        refine' wpAnyH_take (i := 33) (v := ?v33) rfl (by kernel_rfl) (by kernel_rfl) (by kernel_rfl) (fun _ _ _ h => h) (Or.inl ⟨by go_simp, ?hy33⟩) hHeld ?rest33
        case hy33 =>
          intro w hSw
          try dsimp only at hSw
          go_simp
          all_goals with_reducible rfl
        try simp only [Act.put, List.setIfInBounds_toArray, List.set_cons_zero, List.set_cons_succ, List.getElem_toArray, List.getElem_cons_zero, List.getElem_cons_succ]
        refine' wpAnyH_take (i := 34) (v := ?v34) rfl (by kernel_rfl) (by kernel_rfl) (by kernel_rfl) (fun _ _ _ h => h) (Or.inl ⟨by go_simp, ?hy34⟩) hHeld ?rest34
        case hy34 =>
          intro w hSw
          try dsimp only at hSw
          go_simp
          all_goals with_reducible rfl
        try simp only [Act.put, List.setIfInBounds_toArray, List.set_cons_zero, List.set_cons_succ, List.getElem_toArray, List.getElem_cons_zero, List.getElem_cons_succ]
        refine' wpAnyH_take (i := 35) (v := ?v35) rfl (by kernel_rfl) (by kernel_rfl) (by kernel_rfl) (fun _ _ _ h => h) (Or.inl ⟨by go_simp, ?hy35⟩) hHeld ?rest35
        case hy35 =>
          intro w hSw
          try dsimp only at hSw
          go_simp
          all_goals with_reducible rfl
        try simp only [Act.put, List.setIfInBounds_toArray, List.set_cons_zero, List.set_cons_succ, List.getElem_toArray, List.getElem_cons_zero, List.getElem_cons_succ]
        refine' wpAnyH_take (i := 36) (v := ?v36) rfl (by kernel_rfl) (by kernel_rfl) (by kernel_rfl) (fun _ _ _ h => h) (Or.inl ⟨by go_simp, ?hy36⟩) hHeld ?rest36
        case hy36 =>
          intro w hSw
          try dsimp only at hSw
          go_simp
          all_goals with_reducible rfl
        try simp only [Act.put, List.setIfInBounds_toArray, List.set_cons_zero, List.set_cons_succ, List.getElem_toArray, List.getElem_cons_zero, List.getElem_cons_succ]
        refine' wpAnyH_take (i := 37) (v := ?v37) rfl (by kernel_rfl) (by kernel_rfl) (by kernel_rfl) (fun _ _ _ h => h) (Or.inl ⟨by go_simp, ?hy37⟩) hHeld ?rest37
        case hy37 =>
          intro w hSw
          try dsimp only at hSw
          go_simp
          all_goals with_reducible rfl
        try simp only [Act.put, List.setIfInBounds_toArray, List.set_cons_zero, List.set_cons_succ, List.getElem_toArray, List.getElem_cons_zero, List.getElem_cons_succ]
        refine' wpAnyH_take (i := 38) (v := ?v38) rfl (by kernel_rfl) (by kernel_rfl) (by kernel_rfl) (fun _ _ _ h => h) (Or.inl ⟨by go_simp, ?hy38⟩) hHeld ?rest38
        case hy38 =>
          intro w hSw
          try dsimp only at hSw
          go_simp
          all_goals with_reducible rfl
        try simp only [Act.put, List.setIfInBounds_toArray, List.set_cons_zero, List.set_cons_succ, List.getElem_toArray, List.getElem_cons_zero, List.getElem_cons_succ]
        refine' wpAnyH_take (i := 40) (v := ?v40) rfl (by kernel_rfl) (by kernel_rfl) (by kernel_rfl) (fun _ _ _ h => h) (Or.inl ⟨by go_simp, ?hy40⟩) hHeld ?rest40
        case hy40 =>
          intro w hSw
          try dsimp only at hSw
          go_simp
          all_goals with_reducible rfl
        try simp only [Act.put, List.setIfInBounds_toArray, List.set_cons_zero, List.set_cons_succ, List.getElem_toArray, List.getElem_cons_zero, List.getElem_cons_succ]
        refine wpAnyH_ready (rs := [39]) (by kernel_rfl) (by simp) ?_
        refine AllReadyH.cons rfl (fun K hK => ?_) AllReadyH.nil
        go_simp
        go_at_call 21
        refine (HV1.out _ HB6.out.drew).mono ?_
        rintro e w7 ⟨rfl, hB⟩
        have HB7 := Lib.hid (HB6.out.drew.trans (hB.mono HB6.out.size))
        have HD7 := Lib.hid ((Below.refl W6.heap.size W6).drew.trans hB)
        clear hB
        go_wp2_with fail
        refine hK.out _ _ ?_ (fun hHeld2 => ?_)
        · exact HH.out _ HD7.out
        clear hK K hHeld
        have hHeld := hHeld2
        clear hHeld2
        try simp only [Act.put, List.setIfInBounds_toArray, List.set_cons_zero, List.set_cons_succ, List.getElem_toArray, List.getElem_cons_zero, List.getElem_cons_succ]
        refine wpAnyH_ready (rs := [41]) (by kernel_rfl) (by simp) ?_
        refine AllReadyH.cons rfl (fun K hK => ?_) AllReadyH.nil
        go_simp
        go_at_call 22
        refine (HV2.out _ HB7.out).mono ?_
        rintro e w8 ⟨rfl, hB⟩
        have HB8 := Lib.hid (HB7.out.trans (hB.mono HB7.out.size))
        have HD8 := Lib.hid (HD7.out.trans (hB.mono HD7.out.size))
        clear hB
        go_wp2_with fail
        refine hK.out _ _ ?_ (fun hHeld2 => ?_)
        · exact HH.out _ HD8.out
        clear hK K hHeld
        have hHeld := hHeld2
        clear hHeld2
        try simp only [Act.put, List.setIfInBounds_toArray, List.set_cons_zero, List.set_cons_succ, List.getElem_toArray, List.getElem_cons_zero, List.getElem_cons_succ]
        refine' wpAnyH_take (i := 42) (v := ?v42) rfl (by kernel_rfl) (by kernel_rfl) (by kernel_rfl) (fun _ _ _ h => h) (Or.inl ⟨by go_simp, ?hy42⟩) hHeld ?rest42
        case hy42 =>
          intro w hSw
          try dsimp only at hSw
          go_simp
          all_goals with_reducible rfl
        try simp only [Act.put, List.setIfInBounds_toArray, List.set_cons_zero, List.set_cons_succ, List.getElem_toArray, List.getElem_cons_zero, List.getElem_cons_succ]
        refine' wpAnyH_take (i := 43) (v := ?v43) rfl (by kernel_rfl) (by kernel_rfl) (by kernel_rfl) (fun _ _ _ h => h) (Or.inl ⟨by go_simp, ?hy43⟩) hHeld ?rest43
        case hy43 =>
          intro w hSw
          try dsimp only at hSw
          go_simp
          all_goals with_reducible rfl
        try simp only [Act.put, List.setIfInBounds_toArray, List.set_cons_zero, List.set_cons_succ, List.getElem_toArray, List.getElem_cons_zero, List.getElem_cons_succ]
        refine' wpAnyH_take (i := 44) (v := ?v44) rfl (by kernel_rfl) (by kernel_rfl) (by kernel_rfl) (fun _ _ _ h => h) (Or.inl ⟨by go_simp, ?hy44⟩) hHeld ?rest44
        case hy44 =>
          intro w hSw
          try dsimp only at hSw
          go_simp
          all_goals with_reducible rfl
        try simp only [Act.put, List.setIfInBounds_toArray, List.set_cons_zero, List.set_cons_succ, List.getElem_toArray, List.getElem_cons_zero, List.getElem_cons_succ]
        refine wpAnyH_done (by kernel_rfl) ?_ _
        clear hHeld
        go_wp2_with fail
        go_ret
        exact ⟨rfl, HB8.out⟩
      · have d0 : decide ((400 : Int) < (s.key.size : Int)) = false := decide_eq_false (by omega)
        have d1 : decide ((400 : Int) < (t.size : Int)) = false := decide_eq_false (by omega)
        have d2 : decide ((400 : Int) < (m.text.size : Int)) = true := decide_eq_true (by omega)
        clear hK hK2 hs hmn
        obtain ⟨id, role, side, key, sent, top, seen⟩ := s
        obtain ⟨ms, mn, mt⟩ := m
        unfold sesV sesC msgV msgC
        dsimp only at d0 d1 d2 ⊢
        go_enter Tryd.func4, Tryd.ntmps4
        go_upto_region 1 with fail
        refine world_is (P := fun W => Code.wp _ _ _ _ W) (fun W1 hW1 => ?_)
        have Xs1 : Hid (Blk W1 w.heap.size 32 #[.int .i64 id, .int .i64 role, .int .i64 side, .string key, .int .i64 sent, .int .i64 top, .int .u64 (seen : Int)]) := by unfold Hid; rw [← hW1]; exact (Blk.new w _ _).alloc _
        have Xm1 : Hid (Blk W1 (w.heap.size + 1) 42 #[.int .i64 ms, .int .i64 mn, .string mt]) := by unfold Hid; rw [← hW1]; exact blk_new2 _ _ _ _
        have HB1 : Hid (Below w.heap.size w W1) := by unfold Hid; rw [← hW1]; exact ((Below.refl w.heap.size w).alloc (Nat.le_refl _) _).alloc (by rw [World.size_alloc]; exact Nat.le_succ _) _
        clear hW1
        obtain ⟨gm, egm⟩ : ∃ g, w.heap.size + 1 = g := ⟨_, rfl⟩
        rw [egm] at Xm1 ⊢
        clear egm
        go_wp2_with (first | (go_at_call 10; refine (HSA.out _ HB1.out).mono ?_; rintro e w1 ⟨rfl, hB⟩; have Xs2 := Lib.hid (Xs1.out.below hB Xs1.out.lt); have Xm2 := Lib.hid (Xm1.out.below hB Xm1.out.lt); have HB2 := Lib.hid (HB1.out.trans (hB.mono HB1.out.size)); have sc3 := Xs2.out.cell 3; have mc2 := Xm2.out.cell 2; clear hB) | fail)
        go_ret
        exact ⟨rfl, HB2.out⟩
    · have d0 : decide ((400 : Int) < (s.key.size : Int)) = false := decide_eq_false (by omega)
      have d1 : decide ((400 : Int) < (t.size : Int)) = true := decide_eq_true (by omega)
      clear hK hK2 hs hmn
      obtain ⟨id, role, side, key, sent, top, seen⟩ := s
      obtain ⟨ms, mn, mt⟩ := m
      unfold sesV sesC msgV msgC
      dsimp only at d0 d1 ⊢
      go_enter Tryd.func4, Tryd.ntmps4
      go_upto_region 1 with fail
      refine world_is (P := fun W => Code.wp _ _ _ _ W) (fun W1 hW1 => ?_)
      have Xs1 : Hid (Blk W1 w.heap.size 32 #[.int .i64 id, .int .i64 role, .int .i64 side, .string key, .int .i64 sent, .int .i64 top, .int .u64 (seen : Int)]) := by unfold Hid; rw [← hW1]; exact (Blk.new w _ _).alloc _
      have Xm1 : Hid (Blk W1 (w.heap.size + 1) 42 #[.int .i64 ms, .int .i64 mn, .string mt]) := by unfold Hid; rw [← hW1]; exact blk_new2 _ _ _ _
      have HB1 : Hid (Below w.heap.size w W1) := by unfold Hid; rw [← hW1]; exact ((Below.refl w.heap.size w).alloc (Nat.le_refl _) _).alloc (by rw [World.size_alloc]; exact Nat.le_succ _) _
      clear hW1
      obtain ⟨gm, egm⟩ : ∃ g, w.heap.size + 1 = g := ⟨_, rfl⟩
      rw [egm] at Xm1 ⊢
      clear egm
      go_wp2_with (first | (go_at_call 10; refine (HSA.out _ HB1.out).mono ?_; rintro e w1 ⟨rfl, hB⟩; have Xs2 := Lib.hid (Xs1.out.below hB Xs1.out.lt); have Xm2 := Lib.hid (Xm1.out.below hB Xm1.out.lt); have HB2 := Lib.hid (HB1.out.trans (hB.mono HB1.out.size)); have sc3 := Xs2.out.cell 3; have mc2 := Xm2.out.cell 2; clear hB) | fail)
      go_ret
      exact ⟨rfl, HB2.out⟩
  · have d0 : decide ((400 : Int) < (s.key.size : Int)) = true := decide_eq_true (by omega)
    clear hK hK2 hs hmn
    obtain ⟨id, role, side, key, sent, top, seen⟩ := s
    obtain ⟨ms, mn, mt⟩ := m
    unfold sesV sesC msgV msgC
    dsimp only at d0 ⊢
    go_enter Tryd.func4, Tryd.ntmps4
    go_upto_region 1 with fail
    refine world_is (P := fun W => Code.wp _ _ _ _ W) (fun W1 hW1 => ?_)
    have Xs1 : Hid (Blk W1 w.heap.size 32 #[.int .i64 id, .int .i64 role, .int .i64 side, .string key, .int .i64 sent, .int .i64 top, .int .u64 (seen : Int)]) := by unfold Hid; rw [← hW1]; exact (Blk.new w _ _).alloc _
    have Xm1 : Hid (Blk W1 (w.heap.size + 1) 42 #[.int .i64 ms, .int .i64 mn, .string mt]) := by unfold Hid; rw [← hW1]; exact blk_new2 _ _ _ _
    have HB1 : Hid (Below w.heap.size w W1) := by unfold Hid; rw [← hW1]; exact ((Below.refl w.heap.size w).alloc (Nat.le_refl _) _).alloc (by rw [World.size_alloc]; exact Nat.le_succ _) _
    clear hW1
    obtain ⟨gm, egm⟩ : ∃ g, w.heap.size + 1 = g := ⟨_, rfl⟩
    rw [egm] at Xm1 ⊢
    clear egm
    go_wp2_with (first | (go_at_call 10; refine (HSA.out _ HB1.out).mono ?_; rintro e w1 ⟨rfl, hB⟩; have Xs2 := Lib.hid (Xs1.out.below hB Xs1.out.lt); have Xm2 := Lib.hid (Xm1.out.below hB Xm1.out.lt); have HB2 := Lib.hid (HB1.out.trans (hB.mono HB1.out.size)); have sc3 := Xs2.out.cell 3; have mc2 := Xm2.out.cell 2; clear hB) | fail)
    go_ret
    exact ⟨rfl, HB2.out⟩
end Go.Proofs.YtbhagfdkipgggaaDoor
