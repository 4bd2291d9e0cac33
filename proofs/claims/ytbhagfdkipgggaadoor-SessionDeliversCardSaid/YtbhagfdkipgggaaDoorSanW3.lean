/-
  Layer 29 (session): the examples of the documentation (sanity), its walk.
-/
import Derived.Test.YtbhagfdkipgggaaDoorMP
namespace Go.Proofs.YtbhagfdkipgggaaDoor
open Go.RowKit Go.Shelf
attribute [local go_sem] Oper.semAt_some
theorem ses_one7 (a b c d e f g : Value) (ha : a.oneCell' = true) (hb : b.oneCell' = true) (hc : c.oneCell' = true) (hd : d.oneCell' = true) (he : e.oneCell' = true) (hf : f.oneCell' = true) (hg : g.oneCell' = true) : (#[a, b, c, d, e, f, g] : Array Value).all (·.oneCell') = true := by simp [ha, hb, hc, hd, he, hf, hg]
set_option maxRecDepth 100000 in
set_option maxHeartbeats 4000000 in
theorem sanity_core (w : World) (SK SA SB K T1 T2 : ByteArray)
    (hK32 : K.size = 32)
    (hT1 : Hid (∀ wx, Below w.heap.size w wx → Calls Tryd.prog 37 #[.int .i64 32, .int .u8 1] wx fun e w' => e = .returned (.string SK) ∧ Below wx.heap.size wx w'))
    (hT2 : Hid (∀ wx, Below w.heap.size w wx → Calls Tryd.prog 37 #[.int .i64 16, .int .u8 65] wx fun e w' => e = .returned (.string SA) ∧ Below wx.heap.size wx w'))
    (hT3 : Hid (∀ wx, Below w.heap.size w wx → Calls Tryd.prog 37 #[.int .i64 16, .int .u8 97] wx fun e w' => e = .returned (.string SB) ∧ Below wx.heap.size wx w'))
    (hME : Hid (∀ wx, Below w.heap.size w wx → Calls Tryd.prog 36 #[.string SK, .int .i64 2, .int .i64 7, .string SA, .string SB] wx fun e w' => e = .returned (.agg #[.int .i64 7, .int .i64 2, .int .i64 1, .string K, .int .i64 0, .int .i64 0, .int .u64 0, .int .i64 7, .int .i64 2, .int .i64 2, .string K, .int .i64 0, .int .i64 0, .int .u64 0, .bool true]) ∧ Below wx.heap.size wx w'))
    (hS1 : Hid (∀ wx, Below w.heap.size w wx → Calls Tryd.prog 17 #[.agg #[.int .i64 7, .int .i64 2, .int .i64 1, .string K, .int .i64 0, .int .i64 0, .int .u64 0], .string ⟨#[102, 105, 114, 115, 116]⟩] wx fun e w' => e = .returned (.tuple #[.agg #[.int .i64 7, .int .i64 2, .int .i64 1, .string K, .int .i64 1, .int .i64 0, .int .u64 0], .agg #[.int .i64 7, .int .i64 1, .string T1], .int .i64 0]) ∧ Below wx.heap.size wx w'))
    (hS2 : Hid (∀ wx, Below w.heap.size w wx → Calls Tryd.prog 17 #[.agg #[.int .i64 7, .int .i64 2, .int .i64 1, .string K, .int .i64 1, .int .i64 0, .int .u64 0], .string ⟨#[115, 101, 99, 111, 110, 100]⟩] wx fun e w' => e = .returned (.tuple #[.agg #[.int .i64 7, .int .i64 2, .int .i64 1, .string K, .int .i64 2, .int .i64 0, .int .u64 0], .agg #[.int .i64 7, .int .i64 2, .string T2], .int .i64 0]) ∧ Below wx.heap.size wx w'))
    (hR1 : Hid (∀ wx, Below w.heap.size w wx → Calls Tryd.prog 19 #[.agg #[.int .i64 7, .int .i64 2, .int .i64 2, .string K, .int .i64 0, .int .i64 0, .int .u64 0], .agg #[.int .i64 7, .int .i64 2, .string T2]] wx fun e w' => e = .returned (.tuple #[.agg #[.int .i64 7, .int .i64 2, .int .i64 2, .string K, .int .i64 0, .int .i64 2, .int .u64 1], .string ⟨#[115, 101, 99, 111, 110, 100]⟩, .int .i64 0]) ∧ Below wx.heap.size wx w'))
    (hR2 : Hid (∀ wx, Below w.heap.size w wx → Calls Tryd.prog 19 #[.agg #[.int .i64 7, .int .i64 2, .int .i64 2, .string K, .int .i64 0, .int .i64 2, .int .u64 1], .agg #[.int .i64 7, .int .i64 1, .string T1]] wx fun e w' => e = .returned (.tuple #[.agg #[.int .i64 7, .int .i64 2, .int .i64 2, .string K, .int .i64 0, .int .i64 2, .int .u64 3], .string ⟨#[102, 105, 114, 115, 116]⟩, .int .i64 0]) ∧ Below wx.heap.size wx w'))
    (hR3 : Hid (∀ wx, Below w.heap.size w wx → Calls Tryd.prog 19 #[.agg #[.int .i64 7, .int .i64 2, .int .i64 2, .string K, .int .i64 0, .int .i64 2, .int .u64 3], .agg #[.int .i64 7, .int .i64 1, .string T1]] wx fun e w' => e = .returned (.tuple #[.agg #[.int .i64 0, .int .i64 0, .int .i64 0, .string ⟨#[]⟩, .int .i64 0, .int .i64 0, .int .u64 0], .string ⟨#[]⟩, .int .i64 17]) ∧ Below wx.heap.size wx w'))
    (hR4 : Hid (∀ wx, Below w.heap.size w wx → Calls Tryd.prog 19 #[.agg #[.int .i64 7, .int .i64 2, .int .i64 1, .string K, .int .i64 0, .int .i64 0, .int .u64 0], .agg #[.int .i64 7, .int .i64 1, .string T1]] wx fun e w' => e = .returned (.tuple #[.agg #[.int .i64 0, .int .i64 0, .int .i64 0, .string ⟨#[]⟩, .int .i64 0, .int .i64 0, .int .u64 0], .string ⟨#[]⟩, .int .i64 8]) ∧ Below wx.heap.size wx w'))
    (hG4 : Hid (∀ wx, Below w.heap.size w wx → Calls Tryd.prog 11 #[.string SK, .int .i64 4, .string SA] wx fun e w' => e = .returned (.tuple #[.agg #[.int .i64 0, .string ⟨#[]⟩, .string ⟨#[]⟩], .int .i64 1]) ∧ Below wx.heap.size wx w'))
    (hM1 : Hid (∀ wx, Below w.heap.size w wx → Calls Tryd.prog 23 #[.agg #[.int .i64 0, .int .i64 0, .int .i64 0, .string ⟨#[]⟩, .int .i64 0, .int .i64 3, .int .u64 5], .int .i64 2] wx fun e w' => e = .returned (.agg #[.int .i64 0, .int .i64 0, .int .i64 0, .string ⟨#[]⟩, .int .i64 0, .int .i64 3, .int .u64 7]) ∧ Below wx.heap.size wx w'))
    (hM2 : Hid (∀ wx, Below w.heap.size w wx → Calls Tryd.prog 23 #[.agg #[.int .i64 0, .int .i64 0, .int .i64 0, .string ⟨#[]⟩, .int .i64 0, .int .i64 3, .int .u64 7], .int .i64 70] wx fun e w' => e = .returned (.agg #[.int .i64 0, .int .i64 0, .int .i64 0, .string ⟨#[]⟩, .int .i64 0, .int .i64 70, .int .u64 1]) ∧ Below wx.heap.size wx w'))
    (hV1 : Hid (∀ wx, Below w.heap.size w wx → Calls Tryd.prog 21 #[.agg #[.int .i64 7, .int .i64 2, .int .i64 2, .string K, .int .i64 0, .int .i64 2, .int .u64 3]] wx fun e w' => e = .returned (.bool true) ∧ Below wx.heap.size wx w'))
    (hV2 : Hid (∀ wx, Below w.heap.size w wx → Calls Tryd.prog 21 #[.agg #[.int .i64 0, .int .i64 0, .int .i64 0, .string ⟨#[]⟩, .int .i64 0, .int .i64 3, .int .u64 7]] wx fun e w' => e = .returned (.bool false) ∧ Below wx.heap.size wx w'))
    (hF1 : Hid (∀ wx, Below w.heap.size w wx → Calls Tryd.prog 25 #[.agg #[.int .i64 7, .int .i64 2, .int .i64 2, .string K, .int .i64 0, .int .i64 2, .int .u64 3], .int .i64 3] wx fun e w' => e = .returned (.bool true) ∧ Below wx.heap.size wx w'))
    (hF2 : Hid (∀ wx, Below w.heap.size w wx → Calls Tryd.prog 25 #[.agg #[.int .i64 7, .int .i64 2, .int .i64 2, .string K, .int .i64 0, .int .i64 2, .int .u64 3], .int .i64 1] wx fun e w' => e = .returned (.bool false) ∧ Below wx.heap.size wx w'))
    (hPU : Hid (∀ wx, Below w.heap.size w wx → Calls Tryd.prog 29 #[.slice none 0 0, .agg #[.int .i64 7, .int .i64 2, .int .i64 2, .string K, .int .i64 0, .int .i64 2, .int .u64 3]] wx fun e w' => ∃ g c, e = .returned (.tuple #[.slice (some ⟨g, 0, none⟩) 1 c, .int .i64 0]) ∧ TabAt w' (.slice (some ⟨g, 0, none⟩) 1 c) [ses1 K 2 0 2 3] ∧ Below wx.heap.size wx w'))
    (hFI : Hid (∀ wx v, TabAt wx v [ses1 K 2 0 2 3] → Calls Tryd.prog 27 #[v, .int .i64 7] wx fun e w' => e = .returned (.tuple #[.agg #[.int .i64 7, .int .i64 2, .int .i64 2, .string K, .int .i64 0, .int .i64 2, .int .u64 3], .int .i64 0]) ∧ Below wx.heap.size wx w'))
    (hRM : Hid (∀ wx v, TabAt wx v [ses1 K 2 0 2 3] → Calls Tryd.prog 31 #[v, .int .i64 7] wx fun e w' => ∃ A c, e = .returned (.tuple #[.slice A 0 c, .int .i64 0]) ∧ Below wx.heap.size wx w'))
    (hFR : Hid (∀ wx v, TabAt wx v [ses1 K 2 0 2 3] → Calls Tryd.prog 33 #[v] wx fun e w' => e = .returned (.tuple #[.int .i64 1, .int .i64 0]) ∧ Below wx.heap.size wx w'))
    : Calls Tryd.prog 10 #[] w fun e w' => e = .returned (.bool true) ∧ Below w.heap.size w w' := by
  have HB := Lib.hid (Below.refl w.heap.size w)
  go_enter Tryd.func10, Tryd.ntmps10
  go_upto_region 2 with (first
    | (go_at_call 37; refine (hT1.out _ HB.out).mono ?_; rintro e u1 ⟨rfl, hB⟩; have HB1 := Lib.hid (HB.out.trans (hB.mono HB.out.size)); clear hB)
    | fail)
  have HB := HB1
  go_upto_region 3 with (first
    | (go_at_call 36; refine (hME.out _ HB3.out).mono ?_; rintro e u4 ⟨rfl, hB⟩; have HB4 := Lib.hid (HB3.out.trans (hB.mono HB3.out.size)); clear hB)
    | (go_at_call 37; refine (hT3.out _ HB2.out).mono ?_; rintro e u3 ⟨rfl, hB⟩; have HB3 := Lib.hid (HB2.out.trans (hB.mono HB2.out.size)); clear hB)
    | (go_at_call 37; refine (hT2.out _ HB.out).mono ?_; rintro e u2 ⟨rfl, hB⟩; have HB2 := Lib.hid (HB.out.trans (hB.mono HB.out.size)); clear hB)
    | fail)
  refine world_is (P := fun W => Code.wp _ _ _ _ W) (fun W2 hW2 => ?_)
  have HNEW0 : Hid (Blk W2 (u4.heap.size) 67 #[.int .i64 7, .int .i64 2, .int .i64 1, .string K, .int .i64 0, .int .i64 0, .int .u64 0, .int .i64 7, .int .i64 2, .int .i64 2, .string K, .int .i64 0, .int .i64 0, .int .u64 0, .bool true]) := by
    unfold Hid; rw [← hW2]
    have h0 := Blk.new u4 67 #[.int .i64 7, .int .i64 2, .int .i64 1, .string K, .int .i64 0, .int .i64 0, .int .u64 0, .int .i64 7, .int .i64 2, .int .i64 2, .string K, .int .i64 0, .int .i64 0, .int .u64 0, .bool true]
    exact h0
  have HBn2 : Hid (Below w.heap.size w W2) := by unfold Hid; rw [← hW2]; exact (HB4.out.alloc (HB4.out.size) _)
  have leX : Hid (w.heap.size ≤ u4.heap.size) := Nat.le_trans HB4.out.size (by omega)
  clear hW2 HB HB2 HB3 HB4
  obtain ⟨aX, haX⟩ : ∃ aX, u4.heap.size = aX := ⟨_, rfl⟩
  rw [haX] at HNEW0 leX  ⊢
  clear haX
  have HXn2 := HNEW0
  clear HNEW0
  have HB := HBn2
  clear HBn2
  clear u4
  have xc0 := HXn2.out.cell 0
  have xc1 := HXn2.out.cell 1
  have xc2 := HXn2.out.cell 2
  have xc3 := HXn2.out.cell 3
  have xc4 := HXn2.out.cell 4
  have xc5 := HXn2.out.cell 5
  have xc6 := HXn2.out.cell 6
  go_upto_region 4 with (first
    | (go_at_call 17; refine (hS1.out _ HB.out).mono ?_; rintro e u5 ⟨rfl, hB⟩; have HB5 := Lib.hid (HB.out.trans (hB.mono HB.out.size)); have HXx5 := Lib.hid (HXn2.out.below hB HXn2.out.lt); clear hB)
    | fail)
  refine world_is (P := fun W => Code.wp _ _ _ _ W) (fun W3 hW3 => ?_)
  have HXn3 : Hid (Blk W3 aX 67 #[.int .i64 7, .int .i64 2, .int .i64 1, .string K, .int .i64 0, .int .i64 0, .int .u64 0, .int .i64 7, .int .i64 2, .int .i64 2, .string K, .int .i64 0, .int .i64 0, .int .u64 0, .bool true]) := by unfold Hid; rw [← hW3]; exact ((HXx5.out.alloc _).alloc _)
  have HNEW0 : Hid (Blk W3 (u5.heap.size) 32 #[.int .i64 7, .int .i64 2, .int .i64 1, .string K, .int .i64 1, .int .i64 0, .int .u64 0]) := by
    unfold Hid; rw [← hW3]
    have h0 := Blk.new u5 32 #[.int .i64 7, .int .i64 2, .int .i64 1, .string K, .int .i64 1, .int .i64 0, .int .u64 0]
    exact (h0.alloc _)
  have HNEW1 : Hid (Blk W3 (u5.heap.size + 1) 42 #[.int .i64 7, .int .i64 1, .string T1]) := by
    unfold Hid; rw [← hW3]
    have h0 := Blk.new (u5.alloc (.cells #[.int .i64 7, .int .i64 2, .int .i64 1, .string K, .int .i64 1, .int .i64 0, .int .u64 0] 32)) 42 #[.int .i64 7, .int .i64 1, .string T1]
    simp only [World.size_alloc] at h0
    exact h0
  have HBn3 : Hid (Below w.heap.size w W3) := by unfold Hid; rw [← hW3]; exact ((HB5.out.alloc (HB5.out.size) _).alloc (Nat.le_trans HB5.out.size (by simp only [World.size_alloc]; omega)) _)
  have leS : Hid (w.heap.size ≤ u5.heap.size) := Nat.le_trans HB5.out.size (by omega)
  have neXS : Hid (aX ≠ u5.heap.size) := Nat.ne_of_lt (Nat.lt_of_lt_of_le HXx5.out.lt (by omega))
  have neSX : Hid (u5.heap.size ≠ aX) := fun h => neXS.out h.symm
  have leM : Hid (w.heap.size ≤ u5.heap.size + 1) := Nat.le_trans HB5.out.size (by omega)
  have neXM : Hid (aX ≠ u5.heap.size + 1) := Nat.ne_of_lt (Nat.lt_of_lt_of_le HXx5.out.lt (by omega))
  have neMX : Hid (u5.heap.size + 1 ≠ aX) := fun h => neXM.out h.symm
  have neSM : Hid (u5.heap.size ≠ u5.heap.size + 1) := by unfold Hid; omega
  have neMS : Hid (u5.heap.size + 1 ≠ u5.heap.size) := by unfold Hid; omega
  clear hW3 HB HB5 HXx5 HXn2 xc0 xc1 xc2 xc3 xc4 xc5 xc6
  obtain ⟨aM, haM⟩ : ∃ aM, u5.heap.size + 1 = aM := ⟨_, rfl⟩
  rw [haM] at HNEW1 leM neXM neMX neSM neMS ⊢
  clear haM
  have HMn3 := HNEW1
  clear HNEW1
  obtain ⟨aS, haS⟩ : ∃ aS, u5.heap.size = aS := ⟨_, rfl⟩
  rw [haS] at HNEW0 leS neXS neSX neMS neSM ⊢
  clear haS
  have HSn3 := HNEW0
  clear HNEW0
  have HB := HBn3
  clear HBn3
  clear u5
  have sc0 := HSn3.out.cell 0
  have sc1 := HSn3.out.cell 1
  have sc2 := HSn3.out.cell 2
  have sc3 := HSn3.out.cell 3
  have sc4 := HSn3.out.cell 4
  have sc5 := HSn3.out.cell 5
  have sc6 := HSn3.out.cell 6
  go_upto_region 5 with (first
    | (refine wpList_store_mid rfl 32 _ _ rfl aS 0 #[.int .i64 7, .int .i64 2, .int .i64 1, .string K, .int .i64 2, .int .i64 0, .int .u64 0] rfl rfl (there_of_blk (o := 0) (HSx6.out.alloc _) (Nat.le_refl _)) infoSes (ses_one7 _ _ _ _ _ _ _ rfl rfl rfl rfl rfl rfl rfl) ?_; refine wpList_store_mid rfl 42 _ _ rfl u6.heap.size 0 #[.int .i64 7, .int .i64 2, .string T2] rfl rfl (there_of_blk (o := 0) (setCells_blk (Blk.new u6 42 #[.int .i64 0, .int .i64 0, .string ⟨#[]⟩]) (Ne.symm (Nat.ne_of_lt HSx6.out.lt)) [.int .i64 7, .int .i64 2, .int .i64 1, .string K, .int .i64 2, .int .i64 0, .int .u64 0]) (Nat.le_refl _)) infoMsg (wel_one _ _ _ rfl rfl rfl) ?_; simp only [Act.put]; refine world_is (P := fun W => wpList _ _ _ _ _ W) (fun W4 hW4 => ?_))
    | (go_at_call 17; refine (hS2.out _ HB.out).mono ?_; rintro e u6 ⟨rfl, hB⟩; have HB6 := Lib.hid (HB.out.trans (hB.mono HB.out.size)); have HXx6 := Lib.hid (HXn3.out.below hB HXn3.out.lt); have HSx6 := Lib.hid (HSn3.out.below hB HSn3.out.lt); have HMx6 := Lib.hid (HMn3.out.below hB HMn3.out.lt); clear hB)
    | fail)
  have HXn4 : Hid (Blk W4 aX 67 #[.int .i64 7, .int .i64 2, .int .i64 1, .string K, .int .i64 0, .int .i64 0, .int .u64 0, .int .i64 7, .int .i64 2, .int .i64 2, .string K, .int .i64 0, .int .i64 0, .int .u64 0, .bool true]) := by unfold Hid; rw [← hW4]; exact (setCells_blk (setCells_blk (HXx6.out.alloc _) (neXS.out) _) (Nat.ne_of_lt HXx6.out.lt) _)
  have HSn4 : Hid (Blk W4 aS 32 #[.int .i64 7, .int .i64 2, .int .i64 1, .string K, .int .i64 2, .int .i64 0, .int .u64 0]) := by unfold Hid; rw [← hW4]; exact (setCells_blk (blk_setWhole (HSx6.out.alloc _) [.int .i64 7, .int .i64 2, .int .i64 1, .string K, .int .i64 2, .int .i64 0, .int .u64 0] rfl) (Nat.ne_of_lt HSx6.out.lt) _)
  have HMn4 : Hid (Blk W4 aM 42 #[.int .i64 7, .int .i64 1, .string T1]) := by unfold Hid; rw [← hW4]; exact (setCells_blk (setCells_blk (HMx6.out.alloc _) (neMS.out) _) (Nat.ne_of_lt HMx6.out.lt) _)
  have HNEW0 : Hid (Blk W4 (u6.heap.size) 42 #[.int .i64 7, .int .i64 2, .string T2]) := by
    unfold Hid; rw [← hW4]
    have h0 := Blk.new u6 42 #[.int .i64 7, .int .i64 2, .string T2]
    exact blk_setWhole (setCells_blk (Blk.new u6 42 #[.int .i64 0, .int .i64 0, .string ⟨#[]⟩]) (Ne.symm (Nat.ne_of_lt HSx6.out.lt)) _) [.int .i64 7, .int .i64 2, .string T2] rfl
  have HBn4 : Hid (Below w.heap.size w W4) := by unfold Hid; rw [← hW4]; exact (below_setCells HB6.out.size _ 0 _ (below_setCells leS.out _ 0 _ (HB6.out.alloc (HB6.out.size) _)))
  have leN : Hid (w.heap.size ≤ u6.heap.size) := Nat.le_trans HB6.out.size (by omega)
  have neXN : Hid (aX ≠ u6.heap.size) := Nat.ne_of_lt (Nat.lt_of_lt_of_le HXx6.out.lt (by omega))
  have neNX : Hid (u6.heap.size ≠ aX) := fun h => neXN.out h.symm
  have neSN : Hid (aS ≠ u6.heap.size) := Nat.ne_of_lt (Nat.lt_of_lt_of_le HSx6.out.lt (by omega))
  have neNS : Hid (u6.heap.size ≠ aS) := fun h => neSN.out h.symm
  have neMN : Hid (aM ≠ u6.heap.size) := Nat.ne_of_lt (Nat.lt_of_lt_of_le HMx6.out.lt (by omega))
  have neNM : Hid (u6.heap.size ≠ aM) := fun h => neMN.out h.symm
  clear hW4 HB HB6 HXx6 HSx6 HMx6 HXn3 HSn3 HMn3 sc0 sc1 sc2 sc3 sc4 sc5 sc6
  obtain ⟨aN, haN⟩ : ∃ aN, u6.heap.size = aN := ⟨_, rfl⟩
  rw [haN] at HNEW0 leN neXN neNX neSN neNS neMN neNM ⊢
  clear haN
  have HNn4 := HNEW0
  clear HNEW0
  have HB := HBn4
  clear HBn4
  clear u6
  have xc7 := HXn4.out.cell 7
  have xc8 := HXn4.out.cell 8
  have xc9 := HXn4.out.cell 9
  have xc10 := HXn4.out.cell 10
  have xc11 := HXn4.out.cell 11
  have xc12 := HXn4.out.cell 12
  have xc13 := HXn4.out.cell 13
  have nc0 := HNn4.out.cell 0
  have nc1 := HNn4.out.cell 1
  have nc2 := HNn4.out.cell 2
  go_upto_region 6 with (first
    | (go_at_call 19; refine (hR1.out _ HB.out).mono ?_; rintro e u7 ⟨rfl, hB⟩; have HB7 := Lib.hid (HB.out.trans (hB.mono HB.out.size)); have HXx7 := Lib.hid (HXn4.out.below hB HXn4.out.lt); have HSx7 := Lib.hid (HSn4.out.below hB HSn4.out.lt); have HMx7 := Lib.hid (HMn4.out.below hB HMn4.out.lt); have HNx7 := Lib.hid (HNn4.out.below hB HNn4.out.lt); clear hB)
    | fail)
  refine world_is (P := fun W => Code.wp _ _ _ _ W) (fun W5 hW5 => ?_)
  have HXn5 : Hid (Blk W5 aX 67 #[.int .i64 7, .int .i64 2, .int .i64 1, .string K, .int .i64 0, .int .i64 0, .int .u64 0, .int .i64 7, .int .i64 2, .int .i64 2, .string K, .int .i64 0, .int .i64 0, .int .u64 0, .bool true]) := by unfold Hid; rw [← hW5]; exact (HXx7.out.alloc _)
  have HSn5 : Hid (Blk W5 aS 32 #[.int .i64 7, .int .i64 2, .int .i64 1, .string K, .int .i64 2, .int .i64 0, .int .u64 0]) := by unfold Hid; rw [← hW5]; exact (HSx7.out.alloc _)
  have HMn5 : Hid (Blk W5 aM 42 #[.int .i64 7, .int .i64 1, .string T1]) := by unfold Hid; rw [← hW5]; exact (HMx7.out.alloc _)
  have HNn5 : Hid (Blk W5 aN 42 #[.int .i64 7, .int .i64 2, .string T2]) := by unfold Hid; rw [← hW5]; exact (HNx7.out.alloc _)
  have HNEW0 : Hid (Blk W5 (u7.heap.size) 32 #[.int .i64 7, .int .i64 2, .int .i64 2, .string K, .int .i64 0, .int .i64 2, .int .u64 1]) := by
    unfold Hid; rw [← hW5]
    have h0 := Blk.new u7 32 #[.int .i64 7, .int .i64 2, .int .i64 2, .string K, .int .i64 0, .int .i64 2, .int .u64 1]
    exact h0
  have HBn5 : Hid (Below w.heap.size w W5) := by unfold Hid; rw [← hW5]; exact (HB7.out.alloc (HB7.out.size) _)
  have leR : Hid (w.heap.size ≤ u7.heap.size) := Nat.le_trans HB7.out.size (by omega)
  have neXR : Hid (aX ≠ u7.heap.size) := Nat.ne_of_lt (Nat.lt_of_lt_of_le HXx7.out.lt (by omega))
  have neRX : Hid (u7.heap.size ≠ aX) := fun h => neXR.out h.symm
  have neSR : Hid (aS ≠ u7.heap.size) := Nat.ne_of_lt (Nat.lt_of_lt_of_le HSx7.out.lt (by omega))
  have neRS : Hid (u7.heap.size ≠ aS) := fun h => neSR.out h.symm
  have neMR : Hid (aM ≠ u7.heap.size) := Nat.ne_of_lt (Nat.lt_of_lt_of_le HMx7.out.lt (by omega))
  have neRM : Hid (u7.heap.size ≠ aM) := fun h => neMR.out h.symm
  have neNR : Hid (aN ≠ u7.heap.size) := Nat.ne_of_lt (Nat.lt_of_lt_of_le HNx7.out.lt (by omega))
  have neRN : Hid (u7.heap.size ≠ aN) := fun h => neNR.out h.symm
  clear hW5 HB HB7 HXx7 HSx7 HMx7 HNx7 HXn4 HSn4 HMn4 HNn4 xc7 xc8 xc9 xc10 xc11 xc12 xc13 nc0 nc1 nc2
  obtain ⟨aR, haR⟩ : ∃ aR, u7.heap.size = aR := ⟨_, rfl⟩
  rw [haR] at HNEW0 leR neXR neRX neSR neRS neMR neRM neNR neRN ⊢
  clear haR
  have HRn5 := HNEW0
  clear HNEW0
  have HB := HBn5
  clear HBn5
  clear u7
  have rc0 := HRn5.out.cell 0
  have rc1 := HRn5.out.cell 1
  have rc2 := HRn5.out.cell 2
  have rc3 := HRn5.out.cell 3
  have rc4 := HRn5.out.cell 4
  have rc5 := HRn5.out.cell 5
  have rc6 := HRn5.out.cell 6
  have mc0 := HMn5.out.cell 0
  have mc1 := HMn5.out.cell 1
  have mc2 := HMn5.out.cell 2
  go_upto_region 7 with (first
    | (refine wpList_store_mid rfl 32 _ _ rfl aR 0 #[.int .i64 7, .int .i64 2, .int .i64 2, .string K, .int .i64 0, .int .i64 2, .int .u64 3] rfl rfl (there_of_blk (o := 0) HRx8.out (Nat.le_refl _)) infoSes (ses_one7 _ _ _ _ _ _ _ rfl rfl rfl rfl rfl rfl rfl) ?_; simp only [Act.put]; refine world_is (P := fun W => wpList _ _ _ _ _ W) (fun W6 hW6 => ?_))
    | (go_at_call 19; refine (hR2.out _ HB.out).mono ?_; rintro e u8 ⟨rfl, hB⟩; have HB8 := Lib.hid (HB.out.trans (hB.mono HB.out.size)); have HXx8 := Lib.hid (HXn5.out.below hB HXn5.out.lt); have HSx8 := Lib.hid (HSn5.out.below hB HSn5.out.lt); have HMx8 := Lib.hid (HMn5.out.below hB HMn5.out.lt); have HRx8 := Lib.hid (HRn5.out.below hB HRn5.out.lt); clear hB)
    | fail)
  have HXn6 : Hid (Blk W6 aX 67 #[.int .i64 7, .int .i64 2, .int .i64 1, .string K, .int .i64 0, .int .i64 0, .int .u64 0, .int .i64 7, .int .i64 2, .int .i64 2, .string K, .int .i64 0, .int .i64 0, .int .u64 0, .bool true]) := by unfold Hid; rw [← hW6]; exact (setCells_blk HXx8.out (neXR.out) _)
  have HSn6 : Hid (Blk W6 aS 32 #[.int .i64 7, .int .i64 2, .int .i64 1, .string K, .int .i64 2, .int .i64 0, .int .u64 0]) := by unfold Hid; rw [← hW6]; exact (setCells_blk HSx8.out (neSR.out) _)
  have HMn6 : Hid (Blk W6 aM 42 #[.int .i64 7, .int .i64 1, .string T1]) := by unfold Hid; rw [← hW6]; exact (setCells_blk HMx8.out (neMR.out) _)
  have HRn6 : Hid (Blk W6 aR 32 #[.int .i64 7, .int .i64 2, .int .i64 2, .string K, .int .i64 0, .int .i64 2, .int .u64 3]) := by unfold Hid; rw [← hW6]; exact (blk_setWhole HRx8.out [.int .i64 7, .int .i64 2, .int .i64 2, .string K, .int .i64 0, .int .i64 2, .int .u64 3] rfl)
  have HBn6 : Hid (Below w.heap.size w W6) := by unfold Hid; rw [← hW6]; exact (below_setCells leR.out _ 0 _ HB8.out)
  clear hW6 HB HB8 HXx8 HSx8 HMx8 HRx8 HXn5 HSn5 HMn5 HRn5 rc0 rc1 rc2 rc3 rc4 rc5 rc6 mc0 mc1 mc2
  have HB := HBn6
  clear HBn6
  clear u8
  have rc0 := HRn6.out.cell 0
  have rc1 := HRn6.out.cell 1
  have rc2 := HRn6.out.cell 2
  have rc3 := HRn6.out.cell 3
  have rc4 := HRn6.out.cell 4
  have rc5 := HRn6.out.cell 5
  have rc6 := HRn6.out.cell 6
  have mc0 := HMn6.out.cell 0
  have mc1 := HMn6.out.cell 1
  have mc2 := HMn6.out.cell 2
  go_upto_region 8 with (first
    | (go_at_call 19; refine (hR3.out _ HB.out).mono ?_; rintro e u9 ⟨rfl, hB⟩; have HB9 := Lib.hid (HB.out.trans (hB.mono HB.out.size)); have HXx9 := Lib.hid (HXn6.out.below hB HXn6.out.lt); have HSx9 := Lib.hid (HSn6.out.below hB HSn6.out.lt); have HMx9 := Lib.hid (HMn6.out.below hB HMn6.out.lt); have HRx9 := Lib.hid (HRn6.out.below hB HRn6.out.lt); clear hB)
    | fail)
  refine world_is (P := fun W => Code.wp _ _ _ _ W) (fun W7 hW7 => ?_)
  have HXn7 : Hid (Blk W7 aX 67 #[.int .i64 7, .int .i64 2, .int .i64 1, .string K, .int .i64 0, .int .i64 0, .int .u64 0, .int .i64 7, .int .i64 2, .int .i64 2, .string K, .int .i64 0, .int .i64 0, .int .u64 0, .bool true]) := by unfold Hid; rw [← hW7]; exact (HXx9.out.alloc _)
  have HSn7 : Hid (Blk W7 aS 32 #[.int .i64 7, .int .i64 2, .int .i64 1, .string K, .int .i64 2, .int .i64 0, .int .u64 0]) := by unfold Hid; rw [← hW7]; exact (HSx9.out.alloc _)
  have HMn7 : Hid (Blk W7 aM 42 #[.int .i64 7, .int .i64 1, .string T1]) := by unfold Hid; rw [← hW7]; exact (HMx9.out.alloc _)
  have HRn7 : Hid (Blk W7 aR 32 #[.int .i64 7, .int .i64 2, .int .i64 2, .string K, .int .i64 0, .int .i64 2, .int .u64 3]) := by unfold Hid; rw [← hW7]; exact (HRx9.out.alloc _)
  have HNEW0 : Hid (Blk W7 (u9.heap.size) 32 #[.int .i64 0, .int .i64 0, .int .i64 0, .string ⟨#[]⟩, .int .i64 0, .int .i64 0, .int .u64 0]) := by
    unfold Hid; rw [← hW7]
    have h0 := Blk.new u9 32 #[.int .i64 0, .int .i64 0, .int .i64 0, .string ⟨#[]⟩, .int .i64 0, .int .i64 0, .int .u64 0]
    exact h0
  have HBn7 : Hid (Below w.heap.size w W7) := by unfold Hid; rw [← hW7]; exact (HB9.out.alloc (HB9.out.size) _)
  have leJ : Hid (w.heap.size ≤ u9.heap.size) := Nat.le_trans HB9.out.size (by omega)
  have neXJ : Hid (aX ≠ u9.heap.size) := Nat.ne_of_lt (Nat.lt_of_lt_of_le HXx9.out.lt (by omega))
  have neJX : Hid (u9.heap.size ≠ aX) := fun h => neXJ.out h.symm
  have neSJ : Hid (aS ≠ u9.heap.size) := Nat.ne_of_lt (Nat.lt_of_lt_of_le HSx9.out.lt (by omega))
  have neJS : Hid (u9.heap.size ≠ aS) := fun h => neSJ.out h.symm
  have neMJ : Hid (aM ≠ u9.heap.size) := Nat.ne_of_lt (Nat.lt_of_lt_of_le HMx9.out.lt (by omega))
  have neJM : Hid (u9.heap.size ≠ aM) := fun h => neMJ.out h.symm
  have neRJ : Hid (aR ≠ u9.heap.size) := Nat.ne_of_lt (Nat.lt_of_lt_of_le HRx9.out.lt (by omega))
  have neJR : Hid (u9.heap.size ≠ aR) := fun h => neRJ.out h.symm
  clear hW7 HB HB9 HXx9 HSx9 HMx9 HRx9 HXn6 HSn6 HMn6 HRn6 rc0 rc1 rc2 rc3 rc4 rc5 rc6 mc0 mc1 mc2
  obtain ⟨aJ, haJ⟩ : ∃ aJ, u9.heap.size = aJ := ⟨_, rfl⟩
  rw [haJ] at HNEW0 leJ neXJ neJX neSJ neJS neMJ neJM neRJ neJR ⊢
  clear haJ
  have HJn7 := HNEW0
  clear HNEW0
  have HB := HBn7
  clear HBn7
  clear u9
  have xc0 := HXn7.out.cell 0
  have xc1 := HXn7.out.cell 1
  have xc2 := HXn7.out.cell 2
  have xc3 := HXn7.out.cell 3
  have xc4 := HXn7.out.cell 4
  have xc5 := HXn7.out.cell 5
  have xc6 := HXn7.out.cell 6
  have mc0 := HMn7.out.cell 0
  have mc1 := HMn7.out.cell 1
  have mc2 := HMn7.out.cell 2
  go_upto_region 9 with (first
    | (go_at_call 19; refine (hR4.out _ HB.out).mono ?_; rintro e u10 ⟨rfl, hB⟩; have HB10 := Lib.hid (HB.out.trans (hB.mono HB.out.size)); have HXx10 := Lib.hid (HXn7.out.below hB HXn7.out.lt); have HSx10 := Lib.hid (HSn7.out.below hB HSn7.out.lt); have HMx10 := Lib.hid (HMn7.out.below hB HMn7.out.lt); have HRx10 := Lib.hid (HRn7.out.below hB HRn7.out.lt); clear hB)
    | fail)
  refine world_is (P := fun W => Code.wp _ _ _ _ W) (fun W8 hW8 => ?_)
  have HXn8 : Hid (Blk W8 aX 67 #[.int .i64 7, .int .i64 2, .int .i64 1, .string K, .int .i64 0, .int .i64 0, .int .u64 0, .int .i64 7, .int .i64 2, .int .i64 2, .string K, .int .i64 0, .int .i64 0, .int .u64 0, .bool true]) := by unfold Hid; rw [← hW8]; exact (HXx10.out.alloc _)
  have HSn8 : Hid (Blk W8 aS 32 #[.int .i64 7, .int .i64 2, .int .i64 1, .string K, .int .i64 2, .int .i64 0, .int .u64 0]) := by unfold Hid; rw [← hW8]; exact (HSx10.out.alloc _)
  have HMn8 : Hid (Blk W8 aM 42 #[.int .i64 7, .int .i64 1, .string T1]) := by unfold Hid; rw [← hW8]; exact (HMx10.out.alloc _)
  have HRn8 : Hid (Blk W8 aR 32 #[.int .i64 7, .int .i64 2, .int .i64 2, .string K, .int .i64 0, .int .i64 2, .int .u64 3]) := by unfold Hid; rw [← hW8]; exact (HRx10.out.alloc _)
  have HNEW0 : Hid (Blk W8 (u10.heap.size) 32 #[.int .i64 0, .int .i64 0, .int .i64 0, .string ⟨#[]⟩, .int .i64 0, .int .i64 0, .int .u64 0]) := by
    unfold Hid; rw [← hW8]
    have h0 := Blk.new u10 32 #[.int .i64 0, .int .i64 0, .int .i64 0, .string ⟨#[]⟩, .int .i64 0, .int .i64 0, .int .u64 0]
    exact h0
  have HBn8 : Hid (Below w.heap.size w W8) := by unfold Hid; rw [← hW8]; exact (HB10.out.alloc (HB10.out.size) _)
  have leJ : Hid (w.heap.size ≤ u10.heap.size) := Nat.le_trans HB10.out.size (by omega)
  have neXJ : Hid (aX ≠ u10.heap.size) := Nat.ne_of_lt (Nat.lt_of_lt_of_le HXx10.out.lt (by omega))
  have neJX : Hid (u10.heap.size ≠ aX) := fun h => neXJ.out h.symm
  have neSJ : Hid (aS ≠ u10.heap.size) := Nat.ne_of_lt (Nat.lt_of_lt_of_le HSx10.out.lt (by omega))
  have neJS : Hid (u10.heap.size ≠ aS) := fun h => neSJ.out h.symm
  have neMJ : Hid (aM ≠ u10.heap.size) := Nat.ne_of_lt (Nat.lt_of_lt_of_le HMx10.out.lt (by omega))
  have neJM : Hid (u10.heap.size ≠ aM) := fun h => neMJ.out h.symm
  have neRJ : Hid (aR ≠ u10.heap.size) := Nat.ne_of_lt (Nat.lt_of_lt_of_le HRx10.out.lt (by omega))
  have neJR : Hid (u10.heap.size ≠ aR) := fun h => neRJ.out h.symm
  clear hW8 HB HB10 HXx10 HSx10 HMx10 HRx10 HXn7 HSn7 HMn7 HRn7 xc0 xc1 xc2 xc3 xc4 xc5 xc6 mc0 mc1 mc2
  obtain ⟨aJ, haJ⟩ : ∃ aJ, u10.heap.size = aJ := ⟨_, rfl⟩
  rw [haJ] at HNEW0 leJ neXJ neJX neSJ neJS neMJ neJM neRJ neJR ⊢
  clear haJ
  have HJn8 := HNEW0
  clear HNEW0
  have HB := HBn8
  clear HBn8
  clear u10
  go_upto_region 10 with (first
    | (go_at_call 11; refine (hG4.out _ HB11.out).mono ?_; rintro e u12 ⟨rfl, hB⟩; have HB12 := Lib.hid (HB11.out.trans (hB.mono HB11.out.size)); have HXx12 := Lib.hid (HXx11.out.below hB HXx11.out.lt); have HSx12 := Lib.hid (HSx11.out.below hB HSx11.out.lt); have HRx12 := Lib.hid (HRx11.out.below hB HRx11.out.lt); clear hB)
    | (go_at_call 37; refine (hT2.out _ HB.out).mono ?_; rintro e u11 ⟨rfl, hB⟩; have HB11 := Lib.hid (HB.out.trans (hB.mono HB.out.size)); have HXx11 := Lib.hid (HXn8.out.below hB HXn8.out.lt); have HSx11 := Lib.hid (HSn8.out.below hB HSn8.out.lt); have HRx11 := Lib.hid (HRn8.out.below hB HRn8.out.lt); clear hB)
    | fail)
  refine world_is (P := fun W => Code.wp _ _ _ _ W) (fun W9 hW9 => ?_)
  have HXn9 : Hid (Blk W9 aX 67 #[.int .i64 7, .int .i64 2, .int .i64 1, .string K, .int .i64 0, .int .i64 0, .int .u64 0, .int .i64 7, .int .i64 2, .int .i64 2, .string K, .int .i64 0, .int .i64 0, .int .u64 0, .bool true]) := by unfold Hid; rw [← hW9]; exact (HXx12.out.alloc _)
  have HSn9 : Hid (Blk W9 aS 32 #[.int .i64 7, .int .i64 2, .int .i64 1, .string K, .int .i64 2, .int .i64 0, .int .u64 0]) := by unfold Hid; rw [← hW9]; exact (HSx12.out.alloc _)
  have HRn9 : Hid (Blk W9 aR 32 #[.int .i64 7, .int .i64 2, .int .i64 2, .string K, .int .i64 0, .int .i64 2, .int .u64 3]) := by unfold Hid; rw [← hW9]; exact (HRx12.out.alloc _)
  have HNEW0 : Hid (Blk W9 (u12.heap.size) 23 #[.int .i64 0, .string ⟨#[]⟩, .string ⟨#[]⟩]) := by
    unfold Hid; rw [← hW9]
    have h0 := Blk.new u12 23 #[.int .i64 0, .string ⟨#[]⟩, .string ⟨#[]⟩]
    exact h0
  have HBn9 : Hid (Below w.heap.size w W9) := by unfold Hid; rw [← hW9]; exact (HB12.out.alloc (HB12.out.size) _)
  have leJ : Hid (w.heap.size ≤ u12.heap.size) := Nat.le_trans HB12.out.size (by omega)
  have neXJ : Hid (aX ≠ u12.heap.size) := Nat.ne_of_lt (Nat.lt_of_lt_of_le HXx12.out.lt (by omega))
  have neJX : Hid (u12.heap.size ≠ aX) := fun h => neXJ.out h.symm
  have neSJ : Hid (aS ≠ u12.heap.size) := Nat.ne_of_lt (Nat.lt_of_lt_of_le HSx12.out.lt (by omega))
  have neJS : Hid (u12.heap.size ≠ aS) := fun h => neSJ.out h.symm
  have neRJ : Hid (aR ≠ u12.heap.size) := Nat.ne_of_lt (Nat.lt_of_lt_of_le HRx12.out.lt (by omega))
  have neJR : Hid (u12.heap.size ≠ aR) := fun h => neRJ.out h.symm
  clear hW9 HB HB11 HXx11 HSx11 HRx11 HB12 HXx12 HSx12 HRx12 HXn8 HSn8 HRn8
  obtain ⟨aJ, haJ⟩ : ∃ aJ, u12.heap.size = aJ := ⟨_, rfl⟩
  rw [haJ] at HNEW0 leJ neXJ neJX neSJ neJS neRJ neJR ⊢
  clear haJ
  have HJn9 := HNEW0
  clear HNEW0
  have HB := HBn9
  clear HBn9
  clear u12
  go_upto_region 11 with (first
    | (go_at_call 23; refine (hM1.out _ HB.out).mono ?_; rintro e u13 ⟨rfl, hB⟩; have HB13 := Lib.hid (HB.out.trans (hB.mono HB.out.size)); have HXx13 := Lib.hid (HXn9.out.below hB HXn9.out.lt); have HSx13 := Lib.hid (HSn9.out.below hB HSn9.out.lt); have HRx13 := Lib.hid (HRn9.out.below hB HRn9.out.lt); clear hB)
    | fail)
  refine world_is (P := fun W => Code.wp _ _ _ _ W) (fun W10 hW10 => ?_)
  have HXn10 : Hid (Blk W10 aX 67 #[.int .i64 7, .int .i64 2, .int .i64 1, .string K, .int .i64 0, .int .i64 0, .int .u64 0, .int .i64 7, .int .i64 2, .int .i64 2, .string K, .int .i64 0, .int .i64 0, .int .u64 0, .bool true]) := by unfold Hid; rw [← hW10]; exact (HXx13.out.alloc _)
  have HSn10 : Hid (Blk W10 aS 32 #[.int .i64 7, .int .i64 2, .int .i64 1, .string K, .int .i64 2, .int .i64 0, .int .u64 0]) := by unfold Hid; rw [← hW10]; exact (HSx13.out.alloc _)
  have HRn10 : Hid (Blk W10 aR 32 #[.int .i64 7, .int .i64 2, .int .i64 2, .string K, .int .i64 0, .int .i64 2, .int .u64 3]) := by unfold Hid; rw [← hW10]; exact (HRx13.out.alloc _)
  have HNEW0 : Hid (Blk W10 (u13.heap.size) 32 #[.int .i64 0, .int .i64 0, .int .i64 0, .string ⟨#[]⟩, .int .i64 0, .int .i64 3, .int .u64 7]) := by
    unfold Hid; rw [← hW10]
    have h0 := Blk.new u13 32 #[.int .i64 0, .int .i64 0, .int .i64 0, .string ⟨#[]⟩, .int .i64 0, .int .i64 3, .int .u64 7]
    exact h0
  have HBn10 : Hid (Below w.heap.size w W10) := by unfold Hid; rw [← hW10]; exact (HB13.out.alloc (HB13.out.size) _)
  have leP : Hid (w.heap.size ≤ u13.heap.size) := Nat.le_trans HB13.out.size (by omega)
  have neXP : Hid (aX ≠ u13.heap.size) := Nat.ne_of_lt (Nat.lt_of_lt_of_le HXx13.out.lt (by omega))
  have nePX : Hid (u13.heap.size ≠ aX) := fun h => neXP.out h.symm
  have neSP : Hid (aS ≠ u13.heap.size) := Nat.ne_of_lt (Nat.lt_of_lt_of_le HSx13.out.lt (by omega))
  have nePS : Hid (u13.heap.size ≠ aS) := fun h => neSP.out h.symm
  have neRP : Hid (aR ≠ u13.heap.size) := Nat.ne_of_lt (Nat.lt_of_lt_of_le HRx13.out.lt (by omega))
  have nePR : Hid (u13.heap.size ≠ aR) := fun h => neRP.out h.symm
  clear hW10 HB HB13 HXx13 HSx13 HRx13 HXn9 HSn9 HRn9
  obtain ⟨aP, haP⟩ : ∃ aP, u13.heap.size = aP := ⟨_, rfl⟩
  rw [haP] at HNEW0 leP neXP nePX neSP nePS neRP nePR ⊢
  clear haP
  have HPn10 := HNEW0
  clear HNEW0
  have HB := HBn10
  clear HBn10
  clear u13
  have pc0 := HPn10.out.cell 0
  have pc1 := HPn10.out.cell 1
  have pc2 := HPn10.out.cell 2
  have pc3 := HPn10.out.cell 3
  have pc4 := HPn10.out.cell 4
  have pc5 := HPn10.out.cell 5
  have pc6 := HPn10.out.cell 6
  go_upto_region 12 with (first
    | (go_at_call 23; refine (hM2.out _ HB.out).mono ?_; rintro e u14 ⟨rfl, hB⟩; have HB14 := Lib.hid (HB.out.trans (hB.mono HB.out.size)); have HXx14 := Lib.hid (HXn10.out.below hB HXn10.out.lt); have HSx14 := Lib.hid (HSn10.out.below hB HSn10.out.lt); have HRx14 := Lib.hid (HRn10.out.below hB HRn10.out.lt); have HPx14 := Lib.hid (HPn10.out.below hB HPn10.out.lt); clear hB)
    | fail)
  refine world_is (P := fun W => Code.wp _ _ _ _ W) (fun W11 hW11 => ?_)
  have HXn11 : Hid (Blk W11 aX 67 #[.int .i64 7, .int .i64 2, .int .i64 1, .string K, .int .i64 0, .int .i64 0, .int .u64 0, .int .i64 7, .int .i64 2, .int .i64 2, .string K, .int .i64 0, .int .i64 0, .int .u64 0, .bool true]) := by unfold Hid; rw [← hW11]; exact (HXx14.out.alloc _)
  have HSn11 : Hid (Blk W11 aS 32 #[.int .i64 7, .int .i64 2, .int .i64 1, .string K, .int .i64 2, .int .i64 0, .int .u64 0]) := by unfold Hid; rw [← hW11]; exact (HSx14.out.alloc _)
  have HRn11 : Hid (Blk W11 aR 32 #[.int .i64 7, .int .i64 2, .int .i64 2, .string K, .int .i64 0, .int .i64 2, .int .u64 3]) := by unfold Hid; rw [← hW11]; exact (HRx14.out.alloc _)
  have HPn11 : Hid (Blk W11 aP 32 #[.int .i64 0, .int .i64 0, .int .i64 0, .string ⟨#[]⟩, .int .i64 0, .int .i64 3, .int .u64 7]) := by unfold Hid; rw [← hW11]; exact (HPx14.out.alloc _)
  have HNEW0 : Hid (Blk W11 (u14.heap.size) 32 #[.int .i64 0, .int .i64 0, .int .i64 0, .string ⟨#[]⟩, .int .i64 0, .int .i64 70, .int .u64 1]) := by
    unfold Hid; rw [← hW11]
    have h0 := Blk.new u14 32 #[.int .i64 0, .int .i64 0, .int .i64 0, .string ⟨#[]⟩, .int .i64 0, .int .i64 70, .int .u64 1]
    exact h0
  have HBn11 : Hid (Below w.heap.size w W11) := by unfold Hid; rw [← hW11]; exact (HB14.out.alloc (HB14.out.size) _)
  have leQ : Hid (w.heap.size ≤ u14.heap.size) := Nat.le_trans HB14.out.size (by omega)
  have neXQ : Hid (aX ≠ u14.heap.size) := Nat.ne_of_lt (Nat.lt_of_lt_of_le HXx14.out.lt (by omega))
  have neQX : Hid (u14.heap.size ≠ aX) := fun h => neXQ.out h.symm
  have neSQ : Hid (aS ≠ u14.heap.size) := Nat.ne_of_lt (Nat.lt_of_lt_of_le HSx14.out.lt (by omega))
  have neQS : Hid (u14.heap.size ≠ aS) := fun h => neSQ.out h.symm
  have neRQ : Hid (aR ≠ u14.heap.size) := Nat.ne_of_lt (Nat.lt_of_lt_of_le HRx14.out.lt (by omega))
  have neQR : Hid (u14.heap.size ≠ aR) := fun h => neRQ.out h.symm
  have nePQ : Hid (aP ≠ u14.heap.size) := Nat.ne_of_lt (Nat.lt_of_lt_of_le HPx14.out.lt (by omega))
  have neQP : Hid (u14.heap.size ≠ aP) := fun h => nePQ.out h.symm
  clear hW11 HB HB14 HXx14 HSx14 HRx14 HPx14 HXn10 HSn10 HRn10 HPn10 pc0 pc1 pc2 pc3 pc4 pc5 pc6
  obtain ⟨aQ, haQ⟩ : ∃ aQ, u14.heap.size = aQ := ⟨_, rfl⟩
  rw [haQ] at HNEW0 leQ neXQ neQX neSQ neQS neRQ neQR nePQ neQP ⊢
  clear haQ
  have HQn11 := HNEW0
  clear HNEW0
  have HB := HBn11
  clear HBn11
  clear u14
  have rc0 := HRn11.out.cell 0
  have rc1 := HRn11.out.cell 1
  have rc2 := HRn11.out.cell 2
  have rc3 := HRn11.out.cell 3
  have rc4 := HRn11.out.cell 4
  have rc5 := HRn11.out.cell 5
  have rc6 := HRn11.out.cell 6
  go_upto_region 13 with (first
    | (go_at_call 29; refine (hPU.out _ HB.out).mono ?_; rintro e u15 ⟨gT, cT, rfl, hT, hB⟩; have HT15 := Lib.hid hT; clear hT; have HB15 := Lib.hid (HB.out.trans (hB.mono HB.out.size)); have HXx15 := Lib.hid (HXn11.out.below hB HXn11.out.lt); have HSx15 := Lib.hid (HSn11.out.below hB HSn11.out.lt); have HRx15 := Lib.hid (HRn11.out.below hB HRn11.out.lt); have HPx15 := Lib.hid (HPn11.out.below hB HPn11.out.lt); have HQx15 := Lib.hid (HQn11.out.below hB HQn11.out.lt); clear hB)
    | fail)
  have HB := HB15
  have HXn12 := HXx15
  have HSn12 := HSx15
  have HRn12 := HRx15
  have HPn12 := HPx15
  have HQn12 := HQx15
  have HT := HT15
  clear rc0 rc1 rc2 rc3 rc4 rc5 rc6
  go_upto_region 14 with (first
    | (go_at_call 27; refine (hFI.out _ _ HT.out).mono ?_; rintro e u16 ⟨rfl, hB⟩; have HB16 := Lib.hid (HB.out.trans (hB.mono HB.out.size)); have HXx16 := Lib.hid (HXn12.out.below hB HXn12.out.lt); have HSx16 := Lib.hid (HSn12.out.below hB HSn12.out.lt); have HRx16 := Lib.hid (HRn12.out.below hB HRn12.out.lt); have HPx16 := Lib.hid (HPn12.out.below hB HPn12.out.lt); have HQx16 := Lib.hid (HQn12.out.below hB HQn12.out.lt); have HT16 := Lib.hid ((HT.out).below hB (Nat.le_refl _)); clear hB)
    | fail)
  refine world_is (P := fun W => Code.wp _ _ _ _ W) (fun W13 hW13 => ?_)
  have HXn13 : Hid (Blk W13 aX 67 #[.int .i64 7, .int .i64 2, .int .i64 1, .string K, .int .i64 0, .int .i64 0, .int .u64 0, .int .i64 7, .int .i64 2, .int .i64 2, .string K, .int .i64 0, .int .i64 0, .int .u64 0, .bool true]) := by unfold Hid; rw [← hW13]; exact (HXx16.out.alloc _)
  have HSn13 : Hid (Blk W13 aS 32 #[.int .i64 7, .int .i64 2, .int .i64 1, .string K, .int .i64 2, .int .i64 0, .int .u64 0]) := by unfold Hid; rw [← hW13]; exact (HSx16.out.alloc _)
  have HRn13 : Hid (Blk W13 aR 32 #[.int .i64 7, .int .i64 2, .int .i64 2, .string K, .int .i64 0, .int .i64 2, .int .u64 3]) := by unfold Hid; rw [← hW13]; exact (HRx16.out.alloc _)
  have HPn13 : Hid (Blk W13 aP 32 #[.int .i64 0, .int .i64 0, .int .i64 0, .string ⟨#[]⟩, .int .i64 0, .int .i64 3, .int .u64 7]) := by unfold Hid; rw [← hW13]; exact (HPx16.out.alloc _)
  have HQn13 : Hid (Blk W13 aQ 32 #[.int .i64 0, .int .i64 0, .int .i64 0, .string ⟨#[]⟩, .int .i64 0, .int .i64 70, .int .u64 1]) := by unfold Hid; rw [← hW13]; exact (HQx16.out.alloc _)
  have HNEW0 : Hid (Blk W13 (u16.heap.size) 32 #[.int .i64 7, .int .i64 2, .int .i64 2, .string K, .int .i64 0, .int .i64 2, .int .u64 3]) := by
    unfold Hid; rw [← hW13]
    have h0 := Blk.new u16 32 #[.int .i64 7, .int .i64 2, .int .i64 2, .string K, .int .i64 0, .int .i64 2, .int .u64 3]
    exact h0
  have HBn13 : Hid (Below w.heap.size w W13) := by unfold Hid; rw [← hW13]; exact (HB16.out.alloc (HB16.out.size) _)
  have HTn13 : Hid (TabAt W13 (.slice (some ⟨gT, 0, none⟩) 1 cT) [ses1 K 2 0 2 3]) := by unfold Hid; rw [← hW13]; exact HT16.out.below ((Below.refl u16.heap.size u16).alloc (Nat.le_refl _) _) (Nat.le_refl _)
  have leF : Hid (w.heap.size ≤ u16.heap.size) := Nat.le_trans HB16.out.size (by omega)
  have neXF : Hid (aX ≠ u16.heap.size) := Nat.ne_of_lt (Nat.lt_of_lt_of_le HXx16.out.lt (by omega))
  have neFX : Hid (u16.heap.size ≠ aX) := fun h => neXF.out h.symm
  have neSF : Hid (aS ≠ u16.heap.size) := Nat.ne_of_lt (Nat.lt_of_lt_of_le HSx16.out.lt (by omega))
  have neFS : Hid (u16.heap.size ≠ aS) := fun h => neSF.out h.symm
  have neRF : Hid (aR ≠ u16.heap.size) := Nat.ne_of_lt (Nat.lt_of_lt_of_le HRx16.out.lt (by omega))
  have neFR : Hid (u16.heap.size ≠ aR) := fun h => neRF.out h.symm
  have nePF : Hid (aP ≠ u16.heap.size) := Nat.ne_of_lt (Nat.lt_of_lt_of_le HPx16.out.lt (by omega))
  have neFP : Hid (u16.heap.size ≠ aP) := fun h => nePF.out h.symm
  have neQF : Hid (aQ ≠ u16.heap.size) := Nat.ne_of_lt (Nat.lt_of_lt_of_le HQx16.out.lt (by omega))
  have neFQ : Hid (u16.heap.size ≠ aQ) := fun h => neQF.out h.symm
  clear hW13 HB HB16 HXx16 HSx16 HRx16 HPx16 HQx16 HT16 HXn12 HSn12 HRn12 HPn12 HQn12 HT
  obtain ⟨aF, haF⟩ : ∃ aF, u16.heap.size = aF := ⟨_, rfl⟩
  rw [haF] at HNEW0 leF neXF neFX neSF neFS neRF neFR nePF neFP neQF neFQ ⊢
  clear haF
  have HFn13 := HNEW0
  clear HNEW0
  have HB := HBn13
  clear HBn13
  have HT := HTn13
  clear HTn13
  clear u16
  go_upto_region 15 with (first
    | (go_at_call 31; refine (hRM.out _ _ HT.out).mono ?_; rintro e u17 ⟨gU, cU, rfl, hB⟩; have HB17 := Lib.hid (HB.out.trans (hB.mono HB.out.size)); have HXx17 := Lib.hid (HXn13.out.below hB HXn13.out.lt); have HSx17 := Lib.hid (HSn13.out.below hB HSn13.out.lt); have HRx17 := Lib.hid (HRn13.out.below hB HRn13.out.lt); have HPx17 := Lib.hid (HPn13.out.below hB HPn13.out.lt); have HQx17 := Lib.hid (HQn13.out.below hB HQn13.out.lt); have HFx17 := Lib.hid (HFn13.out.below hB HFn13.out.lt); have HT17 := Lib.hid ((HT.out).below hB (Nat.le_refl _)); clear hB)
    | fail)
  have HB := HB17
  have HXn14 := HXx17
  have HSn14 := HSx17
  have HRn14 := HRx17
  have HPn14 := HPx17
  have HQn14 := HQx17
  have HFn14 := HFx17
  have HT := HT17
  go_upto_region 16 with (first
    | (go_at_call 33; refine (hFR.out _ _ HT.out).mono ?_; rintro e u18 ⟨rfl, hB⟩; have HB18 := Lib.hid (HB.out.trans (hB.mono HB.out.size)); have HXx18 := Lib.hid (HXn14.out.below hB HXn14.out.lt); have HSx18 := Lib.hid (HSn14.out.below hB HSn14.out.lt); have HRx18 := Lib.hid (HRn14.out.below hB HRn14.out.lt); have HPx18 := Lib.hid (HPn14.out.below hB HPn14.out.lt); have HQx18 := Lib.hid (HQn14.out.below hB HQn14.out.lt); have HFx18 := Lib.hid (HFn14.out.below hB HFn14.out.lt); have HT18 := Lib.hid ((HT.out).below hB (Nat.le_refl _)); clear hB)
    | fail)
  have HB := HB18
  have HXn15 := HXx18
  have HSn15 := HSx18
  have HRn15 := HRx18
  have HPn15 := HPx18
  have HQn15 := HQx18
  have HFn15 := HFx18
  have HT := HT18
  have xc14 := HXn15.out.cell 14
  go_upto_region 18 with fail
  have HB := HB18
  have HXn16 := HXx18
  have HSn16 := HSx18
  have HRn16 := HRx18
  have HPn16 := HPx18
  have HQn16 := HQx18
  have HFn16 := HFx18
  have HT := HT18
  clear xc14
  have xc3 := HXn16.out.cell 3
  have xc10 := HXn16.out.cell 10
  have sc4 := HSn16.out.cell 4
  have rc0 := HRn16.out.cell 0
  have rc1 := HRn16.out.cell 1
  have rc2 := HRn16.out.cell 2
  have rc3 := HRn16.out.cell 3
  have rc4 := HRn16.out.cell 4
  have rc5 := HRn16.out.cell 5
  have rc6 := HRn16.out.cell 6
  have pc6 := HPn16.out.cell 6
  have qc5 := HQn16.out.cell 5
  have qc6 := HQn16.out.cell 6
  go_wp2_with (first
    | (go_at_call 25; refine (hF2.out _ HB21.out).mono ?_; rintro e u22 ⟨rfl, hB⟩; have HB22 := Lib.hid (HB21.out.trans (hB.mono HB21.out.size)); have HXx22 := Lib.hid (HXx21.out.below hB HXx21.out.lt); have HSx22 := Lib.hid (HSx21.out.below hB HSx21.out.lt); have HRx22 := Lib.hid (HRx21.out.below hB HRx21.out.lt); have HPx22 := Lib.hid (HPx21.out.below hB HPx21.out.lt); have HQx22 := Lib.hid (HQx21.out.below hB HQx21.out.lt); have HFx22 := Lib.hid (HFx21.out.below hB HFx21.out.lt); have HT22 := Lib.hid ((HT21.out).below hB (Nat.le_refl _)); have r3c0 := HRx22.out.cell 0; have r3c1 := HRx22.out.cell 1; have r3c2 := HRx22.out.cell 2; have r3c3 := HRx22.out.cell 3; have r3c4 := HRx22.out.cell 4; have r3c5 := HRx22.out.cell 5; have r3c6 := HRx22.out.cell 6; have f3c0 := HFx22.out.cell 0; have f3c1 := HFx22.out.cell 1; have f3c2 := HFx22.out.cell 2; have f3c3 := HFx22.out.cell 3; have f3c4 := HFx22.out.cell 4; have f3c5 := HFx22.out.cell 5; have f3c6 := HFx22.out.cell 6; clear hB)
    | (go_at_call 25; refine (hF1.out _ HB20.out).mono ?_; rintro e u21 ⟨rfl, hB⟩; have HB21 := Lib.hid (HB20.out.trans (hB.mono HB20.out.size)); have HXx21 := Lib.hid (HXx20.out.below hB HXx20.out.lt); have HSx21 := Lib.hid (HSx20.out.below hB HSx20.out.lt); have HRx21 := Lib.hid (HRx20.out.below hB HRx20.out.lt); have HPx21 := Lib.hid (HPx20.out.below hB HPx20.out.lt); have HQx21 := Lib.hid (HQx20.out.below hB HQx20.out.lt); have HFx21 := Lib.hid (HFx20.out.below hB HFx20.out.lt); have HT21 := Lib.hid ((HT20.out).below hB (Nat.le_refl _)); have r2c0 := HRx21.out.cell 0; have r2c1 := HRx21.out.cell 1; have r2c2 := HRx21.out.cell 2; have r2c3 := HRx21.out.cell 3; have r2c4 := HRx21.out.cell 4; have r2c5 := HRx21.out.cell 5; have r2c6 := HRx21.out.cell 6; clear hB)
    | (go_at_call 21; refine (hV2.out _ HB19.out).mono ?_; rintro e u20 ⟨rfl, hB⟩; have HB20 := Lib.hid (HB19.out.trans (hB.mono HB19.out.size)); have HXx20 := Lib.hid (HXx19.out.below hB HXx19.out.lt); have HSx20 := Lib.hid (HSx19.out.below hB HSx19.out.lt); have HRx20 := Lib.hid (HRx19.out.below hB HRx19.out.lt); have HPx20 := Lib.hid (HPx19.out.below hB HPx19.out.lt); have HQx20 := Lib.hid (HQx19.out.below hB HQx19.out.lt); have HFx20 := Lib.hid (HFx19.out.below hB HFx19.out.lt); have HT20 := Lib.hid ((HT19.out).below hB (Nat.le_refl _)); have r1c0 := HRx20.out.cell 0; have r1c1 := HRx20.out.cell 1; have r1c2 := HRx20.out.cell 2; have r1c3 := HRx20.out.cell 3; have r1c4 := HRx20.out.cell 4; have r1c5 := HRx20.out.cell 5; have r1c6 := HRx20.out.cell 6; clear hB)
    | (go_at_call 21; refine (hV1.out _ HB.out).mono ?_; rintro e u19 ⟨rfl, hB⟩; have HB19 := Lib.hid (HB.out.trans (hB.mono HB.out.size)); have HXx19 := Lib.hid (HXn16.out.below hB HXn16.out.lt); have HSx19 := Lib.hid (HSn16.out.below hB HSn16.out.lt); have HRx19 := Lib.hid (HRn16.out.below hB HRn16.out.lt); have HPx19 := Lib.hid (HPn16.out.below hB HPn16.out.lt); have HQx19 := Lib.hid (HQn16.out.below hB HQn16.out.lt); have HFx19 := Lib.hid (HFn16.out.below hB HFn16.out.lt); have HT19 := Lib.hid ((HT.out).below hB (Nat.le_refl _)); have p0c0 := HPx19.out.cell 0; have p0c1 := HPx19.out.cell 1; have p0c2 := HPx19.out.cell 2; have p0c3 := HPx19.out.cell 3; have p0c4 := HPx19.out.cell 4; have p0c5 := HPx19.out.cell 5; have p0c6 := HPx19.out.cell 6; clear hB)
    | fail)
  go_ret
  exact ⟨rfl, HB22.out⟩
end Go.Proofs.YtbhagfdkipgggaaDoor
